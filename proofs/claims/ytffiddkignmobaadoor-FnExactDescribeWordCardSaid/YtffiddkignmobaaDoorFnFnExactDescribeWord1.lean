/- What functions of the program give: each contract holds for all arguments that its own sentence names. -/
import Derived.Test.YtffiddkignmobaaDoorTv5
import Derived.Test.YtffiddkignmobaaDoorProg
import Derived.Laws.Strings
import Derived.IntWalk
set_option linter.unusedVariables false
set_option linter.unusedSimpArgs false
section
open Go Go.Proofs.YtffiddkignmobaaDoorVe Go.Proofs.YtffiddkignmobaaDoorTv Go.Proofs
namespace Go.Proofs.YtffiddkignmobaaDoorTv
set_option maxRecDepth 8000
set_option maxHeartbeats 2000000
def tab : List (Nat × TE) := [(1, ⟨.fnil, .other, 8⟩), (3, ⟨.int .i64, .int .i64, 8⟩), (4, ⟨.bool, .bool, 1⟩), (5, ⟨.int .u8, .int .u8, 1⟩), (9, ⟨.str, .str, 16⟩), (23, ⟨.pair (.int .i64) (.pair (.int .i64) (.pair (.int .i64) (.pair (.int .i64) (.unit)))), .st [(0, 1), (1, 1), (2, 1), (3, 1)], 32⟩), (24, ⟨.fnil, .other, 8⟩), (25, ⟨.pair (.int .i64) (.pair (.int .i64) (.pair (.int .i64) (.pair (.int .i64) (.unit)))), .st [(0, 1), (1, 1), (2, 1), (3, 1)], 32⟩), (26, ⟨.fnil, .other, 8⟩), (27, ⟨.fnil, .other, 8⟩), (28, ⟨.list (.int .i64), .sl 3, 24⟩), (29, ⟨.fnil, .other, 8⟩), (30, ⟨.fnil, .other, 8⟩), (31, ⟨.fnil, .other, 8⟩), (32, ⟨.fnil, .other, 8⟩), (33, ⟨.list (.list (.int .i64)), .sl 28, 24⟩), (34, ⟨.fnil, .other, 8⟩), (35, ⟨.fnil, .other, 8⟩), (36, ⟨.fnil, .other, 8⟩), (37, ⟨.fnil, .other, 8⟩), (38, ⟨.fnil, .other, 8⟩), (39, ⟨.fnil, .other, 8⟩), (40, ⟨.fnil, .other, 8⟩), (41, ⟨.fnil, .other, 8⟩), (42, ⟨.fnil, .other, 8⟩), (43, ⟨.fnil, .other, 8⟩), (44, ⟨.list (.pair (.int .i64) (.pair (.int .i64) (.unit))), .sl 48, 24⟩), (45, ⟨.fnil, .other, 8⟩), (46, ⟨.fnil, .other, 8⟩), (48, ⟨.pair (.int .i64) (.pair (.int .i64) (.unit)), .st [(0, 1), (1, 1)], 16⟩), (49, ⟨.fnil, .other, 8⟩), (50, ⟨.fnil, .other, 8⟩), (51, ⟨.fnil, .other, 8⟩), (52, ⟨.list (.str), .sl 9, 24⟩), (53, ⟨.fnil, .other, 8⟩), (54, ⟨.fnil, .other, 8⟩), (56, ⟨.fnil, .other, 8⟩), (57, ⟨.fnil, .other, 8⟩), (58, ⟨.fnil, .other, 8⟩), (59, ⟨.list (.pair (.int .i64) (.pair (.int .i64) (.pair (.int .i64) (.unit)))), .sl 64, 24⟩), (61, ⟨.fnil, .other, 8⟩), (62, ⟨.fnil, .other, 8⟩), (64, ⟨.pair (.int .i64) (.pair (.int .i64) (.pair (.int .i64) (.unit))), .st [(0, 1), (1, 1), (2, 1)], 24⟩), (65, ⟨.fnil, .other, 8⟩), (67, ⟨.fnil, .other, 8⟩), (69, ⟨.fnil, .other, 8⟩), (70, ⟨.fnil, .other, 8⟩), (71, ⟨.fnil, .other, 8⟩), (73, ⟨.fnil, .other, 8⟩), (75, ⟨.fnil, .other, 8⟩), (76, ⟨.fnil, .other, 8⟩), (77, ⟨.list (.int .u8), .sl 5, 24⟩), (78, ⟨.fnil, .other, 8⟩), (79, ⟨.fnil, .other, 8⟩), (80, ⟨.fnil, .other, 8⟩), (82, ⟨.fnil, .other, 8⟩), (83, ⟨.fnil, .other, 8⟩), (85, ⟨.fnil, .other, 8⟩), (86, ⟨.fnil, .other, 8⟩), (87, ⟨.fnil, .other, 8⟩), (88, ⟨.fnil, .other, 8⟩), (89, ⟨.fnil, .other, 8⟩), (90, ⟨.fnil, .other, 8⟩), (91, ⟨.fnil, .other, 8⟩), (92, ⟨.fnil, .other, 8⟩), (93, ⟨.fnil, .other, 8⟩), (94, ⟨.fnil, .other, 8⟩), (95, ⟨.fnil, .other, 8⟩), (96, ⟨.fnil, .other, 8⟩), (97, ⟨.fnil, .other, 8⟩), (98, ⟨.fnil, .other, 8⟩), (99, ⟨.fnil, .other, 8⟩), (100, ⟨.fnil, .other, 8⟩), (102, ⟨.fnil, .other, 8⟩), (103, ⟨.fnil, .other, 8⟩), (104, ⟨.fnil, .other, 8⟩), (106, ⟨.fnil, .other, 8⟩), (107, ⟨.fnil, .other, 8⟩), (108, ⟨.fnil, .other, 8⟩), (109, ⟨.fnil, .other, 8⟩), (110, ⟨.fnil, .other, 8⟩), (111, ⟨.pair (.list (.int .i64)) (.unit), .st [(0, 1)], 24⟩), (112, ⟨.pair (.list (.int .i64)) (.unit), .st [(0, 1)], 24⟩), (113, ⟨.fnil, .other, 8⟩), (114, ⟨.int .u64, .int .u64, 8⟩), (115, ⟨.fnil, .other, 8⟩), (116, ⟨.pair (.int .i64) (.pair (.int .i64) (.unit)), .arr 2 3, 16⟩), (117, ⟨.pair (.pair (.int .i64) (.pair (.int .i64) (.unit))) (.pair (.pair (.int .i64) (.pair (.int .i64) (.unit))) (.pair (.pair (.int .i64) (.pair (.int .i64) (.unit))) (.pair (.pair (.int .i64) (.pair (.int .i64) (.unit))) (.pair (.pair (.int .i64) (.pair (.int .i64) (.unit))) (.pair (.pair (.int .i64) (.pair (.int .i64) (.unit))) (.pair (.pair (.int .i64) (.pair (.int .i64) (.unit))) (.pair (.pair (.int .i64) (.pair (.int .i64) (.unit))) (.pair (.pair (.int .i64) (.pair (.int .i64) (.unit))) (.unit))))))))), .arr 9 116, 144⟩), (119, ⟨.fnil, .other, 8⟩), (120, ⟨.fnil, .other, 8⟩), (121, ⟨.fnil, .other, 8⟩), (125, ⟨.fnil, .other, 8⟩), (129, ⟨.fnil, .other, 8⟩), (130, ⟨.fnil, .other, 8⟩), (131, ⟨.list (.bool), .sl 4, 24⟩), (132, ⟨.fnil, .other, 8⟩), (133, ⟨.fnil, .other, 8⟩), (134, ⟨.fnil, .other, 8⟩), (135, ⟨.fnil, .other, 8⟩), (136, ⟨.fnil, .other, 8⟩), (137, ⟨.fnil, .other, 8⟩), (139, ⟨.fnil, .other, 8⟩), (141, ⟨.fnil, .other, 8⟩), (143, ⟨.fnil, .other, 8⟩), (144, ⟨.fnil, .other, 8⟩), (147, ⟨.fnil, .other, 8⟩), (148, ⟨.fnil, .other, 8⟩), (150, ⟨.fnil, .other, 8⟩), (154, ⟨.fnil, .other, 8⟩), (155, ⟨.fnil, .other, 8⟩), (165, ⟨.fnil, .other, 8⟩)]
theorem hmix : Tryd.prog.follows .mixedOrders = true := by kernel_rfl
theorem hTab : TabOk Tryd.prog tab := fun t e h => by
  refine tabAll_ok (l := tab) ?_ t e h
  refine ⟨⟨by kernel_rfl, trivial⟩, ⟨by kernel_rfl, rfl⟩, ⟨by kernel_rfl, trivial⟩, ⟨by kernel_rfl, rfl⟩, ⟨by kernel_rfl, trivial⟩, ⟨by kernel_rfl, trivial⟩, ⟨by kernel_rfl, trivial⟩, ⟨by kernel_rfl, trivial⟩, ⟨by kernel_rfl, trivial⟩, ⟨by kernel_rfl, trivial⟩, ⟨by kernel_rfl, _, rfl, rfl, by decide, by decide, by decide⟩, ⟨by kernel_rfl, trivial⟩, ⟨by kernel_rfl, trivial⟩, ⟨by kernel_rfl, trivial⟩, ⟨by kernel_rfl, trivial⟩, ⟨by kernel_rfl, _, rfl, rfl, by decide, by decide, by decide⟩, ⟨by kernel_rfl, trivial⟩, ⟨by kernel_rfl, trivial⟩, ⟨by kernel_rfl, trivial⟩, ⟨by kernel_rfl, trivial⟩, ⟨by kernel_rfl, trivial⟩, ⟨by kernel_rfl, trivial⟩, ⟨by kernel_rfl, trivial⟩, ⟨by kernel_rfl, trivial⟩, ⟨by kernel_rfl, trivial⟩, ⟨by kernel_rfl, trivial⟩, ⟨by kernel_rfl, _, rfl, rfl, by decide, by decide, by decide⟩, ⟨by kernel_rfl, trivial⟩, ⟨by kernel_rfl, trivial⟩, ⟨by kernel_rfl, trivial⟩, ⟨by kernel_rfl, trivial⟩, ⟨by kernel_rfl, trivial⟩, ⟨by kernel_rfl, trivial⟩, ⟨by kernel_rfl, _, rfl, rfl, by decide, by decide, by decide⟩, ⟨by kernel_rfl, trivial⟩, ⟨by kernel_rfl, trivial⟩, ⟨by kernel_rfl, trivial⟩, ⟨by kernel_rfl, trivial⟩, ⟨by kernel_rfl, trivial⟩, ⟨by kernel_rfl, _, rfl, rfl, by decide, by decide, by decide⟩, ⟨by kernel_rfl, trivial⟩, ⟨by kernel_rfl, trivial⟩, ⟨by kernel_rfl, trivial⟩, ⟨by kernel_rfl, trivial⟩, ⟨by kernel_rfl, trivial⟩, ⟨by kernel_rfl, trivial⟩, ⟨by kernel_rfl, trivial⟩, ⟨by kernel_rfl, trivial⟩, ⟨by kernel_rfl, trivial⟩, ⟨by kernel_rfl, trivial⟩, ⟨by kernel_rfl, trivial⟩, ⟨by kernel_rfl, _, rfl, rfl, by decide, by decide, by decide⟩, ⟨by kernel_rfl, trivial⟩, ⟨by kernel_rfl, trivial⟩, ⟨by kernel_rfl, trivial⟩, ⟨by kernel_rfl, trivial⟩, ⟨by kernel_rfl, trivial⟩, ⟨by kernel_rfl, trivial⟩, ⟨by kernel_rfl, trivial⟩, ⟨by kernel_rfl, trivial⟩, ⟨by kernel_rfl, trivial⟩, ⟨by kernel_rfl, trivial⟩, ⟨by kernel_rfl, trivial⟩, ⟨by kernel_rfl, trivial⟩, ⟨by kernel_rfl, trivial⟩, ⟨by kernel_rfl, trivial⟩, ⟨by kernel_rfl, trivial⟩, ⟨by kernel_rfl, trivial⟩, ⟨by kernel_rfl, trivial⟩, ⟨by kernel_rfl, trivial⟩, ⟨by kernel_rfl, trivial⟩, ⟨by kernel_rfl, trivial⟩, ⟨by kernel_rfl, trivial⟩, ⟨by kernel_rfl, trivial⟩, ⟨by kernel_rfl, trivial⟩, ⟨by kernel_rfl, trivial⟩, ⟨by kernel_rfl, trivial⟩, ⟨by kernel_rfl, trivial⟩, ⟨by kernel_rfl, trivial⟩, ⟨by kernel_rfl, trivial⟩, ⟨by kernel_rfl, trivial⟩, ⟨by kernel_rfl, trivial⟩, ⟨by kernel_rfl, trivial⟩, ⟨by kernel_rfl, trivial⟩, ⟨by kernel_rfl, rfl⟩, ⟨by kernel_rfl, trivial⟩, ⟨by kernel_rfl, trivial⟩, ⟨by kernel_rfl, trivial⟩, ⟨by kernel_rfl, trivial⟩, ⟨by kernel_rfl, trivial⟩, ⟨by kernel_rfl, trivial⟩, ⟨by kernel_rfl, trivial⟩, ⟨by kernel_rfl, trivial⟩, ⟨by kernel_rfl, trivial⟩, ⟨by kernel_rfl, _, rfl, rfl, by decide, by decide, by decide⟩, ⟨by kernel_rfl, trivial⟩, ⟨by kernel_rfl, trivial⟩, ⟨by kernel_rfl, trivial⟩, ⟨by kernel_rfl, trivial⟩, ⟨by kernel_rfl, trivial⟩, ⟨by kernel_rfl, trivial⟩, ⟨by kernel_rfl, trivial⟩, ⟨by kernel_rfl, trivial⟩, ⟨by kernel_rfl, trivial⟩, ⟨by kernel_rfl, trivial⟩, ⟨by kernel_rfl, trivial⟩, ⟨by kernel_rfl, trivial⟩, ⟨by kernel_rfl, trivial⟩, ⟨by kernel_rfl, trivial⟩, ⟨by kernel_rfl, trivial⟩, ⟨by kernel_rfl, trivial⟩, trivial⟩
theorem l1In (a lo hi : Int) : ConS Tryd.prog 105 [.i a, .i lo, .i hi] (.b (decide (lo ≤ a ∧ a ≤ hi))) := by
  refine conS_of hmix hTab Tryd.func105 rfl rfl (by kernel_rfl) (by show 3 ≤ Tryd.f105.ntmps; decide) rfl ?_
  refine stp ?_; try with_reducible exact True.intro
  refine Br.mk (fun h => ?_) (fun h => ?_)
  all_goals refine stp ?_; try with_reducible exact True.intro
  all_goals (simp at h; simp [h])
  omega
theorem within (a lo hi : Int) : ConS Tryd.prog 113 [.i a, .i lo, .i hi] (.b (decide (lo ≤ a ∧ a ≤ hi))) := by
  refine conS_of hmix hTab Tryd.func113 rfl rfl (by kernel_rfl) (by show 3 ≤ Tryd.f113.ntmps; decide) rfl ?_
  refine stp ?_; try with_reducible exact True.intro
  refine Br.mk (fun h => ?_) (fun h => ?_)
  all_goals refine stp ?_; try with_reducible exact True.intro
  all_goals (simp at h; simp [h])
  omega
theorem l1Bit (b : Bool) : ConS Tryd.prog 152 [.b b] (.i (if b = true then 1 else 0)) := by
  refine conS_of hmix hTab Tryd.func152 rfl rfl (by kernel_rfl) (by show 1 ≤ Tryd.f152.ntmps; decide) rfl ?_
  refine stp ?_; try with_reducible exact True.intro
  refine Br.mk (fun h => ?_) (fun h => ?_)
  all_goals refine stp ?_; try with_reducible exact True.intro
  all_goals simp [h, constV]
theorem toIntS (l : List Int) (hl : (l.length : Int) ≤ 1048576) : ConT Tryd.prog 13 [.il l] (.own 0 0 l.length) [.arr (.int .i64) l true] := by
  refine conT_of hmix hTab Tryd.func13 rfl rfl (by kernel_rfl) (by show 1 ≤ Tryd.f13.ntmps; decide) ?_
  refine stp ?_; try with_reducible exact True.intro
  refine ⟨Nat, fun i => i ≤ l.length, fun i => l.length - i, fun i => [(0, .il l), (3, .own 0 0 l.length), (4, .i i)], fun i => [.arr (.int .i64) (l.take i ++ List.replicate (l.length - i) 0) true], ⟨0, ⟨.frz [], [0], ⟨rfl, rfl, rfl, trivial⟩, ⟨rfl, trivial⟩, by decide, rfl, rfl, rfl⟩, Nat.zero_le _⟩, fun i hi => ?_⟩
  refine stp ?_; try with_reducible exact True.intro
  refine Br.mk (fun h => ?_) (fun h => ?_) <;> simp at h
  · refine stp ?_; try with_reducible exact True.intro
    refine ⟨i + 1, ⟨.frz [], [0], ⟨rfl, rfl, rfl, trivial⟩, ⟨?_, trivial⟩, by decide, rfl, rfl, rfl⟩, h, by dsimp only; omega⟩
    refine congrArg (fun x => some (Obj.arr (.int .i64) x true)) ?_
    have := fill_step id l (0 : Int) rfl (rd_get (l := l) (i := (i : Int)) (by simpa using h))
    simpa using this
  · refine stp ?_; try with_reducible exact True.intro
    obtain rfl : i = l.length := Nat.le_antisymm hi h
    exact ⟨.frz [], [0], ⟨rfl, trivial⟩, ⟨by simp [Obj.ren, frzI], trivial⟩, by decide, rfl, rfl, rfl⟩
end Go.Proofs.YtffiddkignmobaaDoorTv
end
section
open Go Go.Proofs.YtffiddkignmobaaDoorVe Go.Proofs.YtffiddkignmobaaDoorTv Go.Proofs
namespace Go.Proofs.YtffiddkignmobaaDoorTv
set_option maxRecDepth 8000
set_option maxHeartbeats 2000000
/-- A law's own checks: rows that are equal. -/
theorem ConS.toT {P : Program} {f : Nat} {args : List V} {rs : V} (h : ConS P f args rs) : ConT P f args rs [] := by
  obtain ⟨h1, h2, h3⟩ := h
  refine ⟨h2, fun m s avs hno hs hS hv => (h3 m s avs hno hs hS hv).mono fun av H' ⟨e1, e2⟩ => ⟨m, e2.symm, hS, Kp.refl m [], Fr.refl m s, ?_⟩⟩
  rw [e1]; exact scal_vt m [] rs h1
theorem eqIntS (l m : List Int) (hl : (l.length : Int) ≤ 274877906944) : ConS Tryd.prog 15 [.il l, .il m] (.b (decide (l = m))) := by
  refine conS_of hmix hTab Tryd.func15 rfl rfl (by kernel_rfl) (by show 2 ≤ Tryd.f15.ntmps; decide) rfl ?_
  refine stp ?_; try with_reducible exact True.intro
  refine Br.mk (fun h => ?_) (fun h => ?_) <;> simp at h
  · refine stp ?_; try with_reducible exact True.intro
    have : l ≠ m := fun e => h (by rw [e])
    simp [this]
  · refine stp ?_; try with_reducible exact True.intro
    refine ⟨Nat, fun i => i ≤ l.length ∧ ∀ k, k < i → rd l k = rd m k, fun i => l.length - i, fun i => [(0, .il l), (1, .il m), (5, .i i)], fun i => [], ⟨0, ⟨.frz [], [], ⟨rfl, rfl, rfl, trivial⟩, trivial, by decide, rfl, rfl, rfl⟩, by simp⟩, fun i ⟨hi, hk⟩ => ?_⟩
    refine stp ?_; try with_reducible exact True.intro
    refine Br.mk (fun h1 => ?_) (fun h1 => ?_) <;> simp at h1
    · refine stp ?_; try with_reducible exact True.intro
      refine Br.mk (fun h2 => ?_) (fun h2 => ?_) <;> simp at h2
      · refine stp ?_; try with_reducible exact True.intro
        have : l ≠ m := fun e => h2 (by rw [e])
        simp [this]
      · refine stp ?_; try with_reducible exact True.intro
        refine ⟨i + 1, ⟨.frz [], [], ⟨rfl, rfl, rfl, trivial⟩, trivial, by decide, rfl, rfl, rfl⟩, ⟨h1, fun k hk1 => ?_⟩, by dsimp only; omega⟩
        by_cases e : k = i
        · rw [e]; exact h2
        · exact hk k (by omega)
    · refine stp ?_; try with_reducible exact True.intro
      have : l = m := by
        refine List.ext_getElem (by omega) fun k h2 h3 => ?_
        have := hk k (by omega)
        simpa [rd, h2, h3] using this
      simp [this]
end Go.Proofs.YtffiddkignmobaaDoorTv
end
section
open Go Go.Proofs.YtffiddkignmobaaDoorVe Go.Proofs.YtffiddkignmobaaDoorTv Go.Proofs
namespace Go.Proofs.YtffiddkignmobaaDoorTv
set_option maxRecDepth 8000
set_option maxHeartbeats 2000000
theorem rdR_memA {ll : List (List Int)} {j : Nat} (h : j < ll.length) : rdR ll j ∈ ll := by simp [rdR, h]
theorem rd_memA {l : List Int} {j : Nat} (h : j < l.length) : rd l j ∈ l := by simp [rd, h]
theorem drop_consA {l : List Int} {i : Nat} (h : i < l.length) : l.drop i = rd l i :: l.drop (i + 1) := by
  rw [List.drop_eq_getElem_cons h]
  simp [rd, h]
theorem drop_consB {l : List (List Int)} {i : Nat} (h : i < l.length) : l.drop i = rdR l i :: l.drop (i + 1) := by
  rw [List.drop_eq_getElem_cons h]
  simp [rdR, h]
theorem take_succA {l : List Int} {i : Nat} (h : i < l.length) : l.take (i + 1) = l.take i ++ [rd l i] := by
  rw [List.take_add_one]
  simp [rd, h]
theorem take_succB {l : List (List Int)} {i : Nat} (h : i < l.length) : l.take (i + 1) = l.take i ++ [rdR l i] := by
  rw [List.take_add_one]
  simp [rdR, h]
def isLet (x : Int) : Bool := decide (x ≠ 0) && decide (-8 ≤ x ∧ x ≤ 8)
def wordOk (w : List Int) : Bool := w.all isLet && decide (w.length ≤ 24)
def absI (x : Int) : Int := max x (-x)
theorem absI_let {x : Int} (h : isLet x = true) : 1 ≤ absI x ∧ absI x ≤ 8 := by
  simp only [isLet, Bool.and_eq_true, decide_eq_true_eq] at h
  unfold absI; omega
theorem isLetter (x : Int) : ConS Tryd.prog 220 [.i x] (.b (isLet x)) := by
  refine conS_of hmix hTab Tryd.func220 rfl rfl (by kernel_rfl) (by show 1 ≤ Tryd.f220.ntmps; decide) rfl ?_
  unfold isLet
  refine stp ?_; try with_reducible exact True.intro
  by_cases h : x = 0
  · subst h
    refine brF rfl ?_
    refine stp ?_; try with_reducible exact True.intro
    simp
  · refine brT (by simp [h]) ?_
    refine stp ?_; try with_reducible exact True.intro
    refine useT ((within x (-8) 8).toT) ?_; try with_reducible exact True.intro
    simp [h]
theorem l2Letter (x : Int) : ConS Tryd.prog 217 [.i x] (.b (isLet x)) := by
  refine conS_of hmix hTab Tryd.func217 rfl rfl (by kernel_rfl) (by show 1 ≤ Tryd.f217.ntmps; decide) rfl ?_
  unfold isLet
  refine stp ?_; try with_reducible exact True.intro
  refine useT ((l1In x 1 8).toT) ?_; try with_reducible exact True.intro
  by_cases h : 1 ≤ x ∧ x ≤ 8
  · have h0 : x ≠ 0 := by omega
    have h1 : -8 ≤ x ∧ x ≤ 8 := by omega
    simp only [h, and_self, decide_true]
    refine stp ?_; try with_reducible exact True.intro
    simp [h0, h1]
  · simp only [h, decide_false]
    refine stp ?_; try with_reducible exact True.intro
    refine useT ((l1In x (-8) (-1)).toT) ?_; try with_reducible exact True.intro
    have : decide (-8 ≤ x ∧ x ≤ -1) = (decide (x ≠ 0) && decide (-8 ≤ x ∧ x ≤ 8)) := by
      rw [← Bool.decide_and]
      exact decide_eq_decide.2 (by omega)
    rw [this]
theorem l1MaxA (a b : Int) : ConS Tryd.prog 216 [.i a, .i b] (.i (max a b)) := by
  refine conS_of hmix hTab Tryd.func216 rfl rfl (by kernel_rfl) (by show 2 ≤ Tryd.f216.ntmps; decide) rfl ?_
  refine stp ?_; try with_reducible exact True.intro
  refine Br.mk (fun h => ?_) (fun h => ?_) <;> simp [-Int.ofNat_toNat] at h
  · refine stp ?_; try with_reducible exact True.intro
    rw [Int.max_eq_left (by omega)]
  · refine stp ?_; try with_reducible exact True.intro
    rw [Int.max_eq_right (by omega)]
theorem l3Abs (x : Int) (h : -1000000 ≤ x ∧ x ≤ 1000000) : ConS Tryd.prog 128 [.i x] (.i (absI x)) := by
  refine conS_of hmix hTab Tryd.func128 rfl rfl (by kernel_rfl) (by show 1 ≤ Tryd.f128.ntmps; decide) rfl ?_
  refine stp ?_; try with_reducible exact True.intro
  refine useT ((l1MaxA x (-x)).toT) ?_; try with_reducible exact True.intro
  rfl
theorem sizeI (x : Int) (h : -1000000 ≤ x ∧ x ≤ 1000000) : ConS Tryd.prog 182 [.i x] (.i (absI x)) := by
  refine conS_of hmix hTab Tryd.func182 rfl rfl (by kernel_rfl) (by show 1 ≤ Tryd.f182.ntmps; decide) rfl ?_
  refine stp ?_; try with_reducible exact True.intro
  unfold absI maxI
  by_cases c : -x > x
  · rw [if_pos c, Int.max_eq_right (by omega)]
  · rw [if_neg c, Int.max_eq_left (by omega)]
theorem IsWordI (w : List Int) (hw : (w.length : Int) ≤ 274877906944) : ConS Tryd.prog 142 [.il w] (.b (wordOk w)) := by
  refine conS_of hmix hTab Tryd.func142 rfl rfl (by kernel_rfl) (by show 1 ≤ Tryd.f142.ntmps; decide) rfl ?_
  refine stp ?_; try with_reducible exact True.intro
  refine ⟨Nat, fun i => i ≤ w.length ∧ (w.drop i).all isLet = w.all isLet, fun i => w.length - i, fun i => [(0, .il w), (5, .il w), (6, .i w.length), (7, .i i)], fun i => [], ⟨0, (fitK [] []), by simp⟩, fun i ⟨hi, hc⟩ => ?_⟩
  dsimp only at hi hc ⊢
  refine stp ?_; try with_reducible exact True.intro
  refine Br.mk (fun h1 => ?_) (fun h1 => ?_) <;> simp [-Int.ofNat_toNat] at h1
  · rw [drop_consA h1, List.all_cons] at hc
    have hL := isLetter (rd w i)
    cases hl : isLet (rd w i) with
    | true =>
      rw [hl, Bool.true_and] at hc
      rw [hl] at hL
      refine stp ?_; try with_reducible exact True.intro
      refine useT (hL.toT) ?_; try with_reducible exact True.intro
      exact ⟨i + 1, (fitK [] []), ⟨h1, hc⟩, by first | ((try dsimp only); omega) | (simp; omega)⟩
    | false =>
      rw [hl, Bool.false_and] at hc
      rw [hl] at hL
      refine stp ?_; try with_reducible exact True.intro
      refine useT (hL.toT) ?_; try with_reducible exact True.intro
      rw [wordOk, ← hc, Bool.false_and]
  · obtain rfl : i = w.length := by omega
    rw [List.drop_length, List.all_nil] at hc
    refine stp ?_; try with_reducible exact True.intro
    rw [wordOk, ← hc, Bool.true_and]
    simp
    omega
theorem IsWordS (w : List Int) (hw : (w.length : Int) ≤ 274877906944) : ConS Tryd.prog 129 [.il w] (.b (wordOk w)) := by
  refine conS_of hmix hTab Tryd.func129 rfl rfl (by kernel_rfl) (by show 1 ≤ Tryd.f129.ntmps; decide) rfl ?_
  refine stp ?_; try with_reducible exact True.intro
  refine ⟨Nat, fun i => i ≤ w.length ∧ (w.drop i).all isLet = w.all isLet, fun i => w.length - i, fun i => [(0, .il w), (3, .i i)], fun i => [], ⟨0, (fitK [] []), by simp⟩, fun i ⟨hi, hc⟩ => ?_⟩
  dsimp only at hi hc ⊢
  refine stp ?_; try with_reducible exact True.intro
  refine Br.mk (fun h1 => ?_) (fun h1 => ?_) <;> simp [-Int.ofNat_toNat] at h1
  · rw [drop_consA h1, List.all_cons] at hc
    have hL := l2Letter (rd w i)
    cases hl : isLet (rd w i) with
    | true =>
      rw [hl, Bool.true_and] at hc
      rw [hl] at hL
      refine stp ?_; try with_reducible exact True.intro
      refine useT (hL.toT) ?_; try with_reducible exact True.intro
      exact ⟨i + 1, (fitK [] []), ⟨h1, hc⟩, by first | ((try dsimp only); omega) | (simp; omega)⟩
    | false =>
      rw [hl, Bool.false_and] at hc
      rw [hl] at hL
      refine stp ?_; try with_reducible exact True.intro
      refine useT (hL.toT) ?_; try with_reducible exact True.intro
      rw [wordOk, ← hc, Bool.false_and]
  · obtain rfl : i = w.length := by omega
    rw [List.drop_length, List.all_nil] at hc
    refine stp ?_; try with_reducible exact True.intro
    rw [wordOk, ← hc, Bool.true_and]
    simp
    omega
end Go.Proofs.YtffiddkignmobaaDoorTv
end
section
open Go Go.Proofs.YtffiddkignmobaaDoorVe Go.Proofs.YtffiddkignmobaaDoorTv Go.Proofs
namespace Go.Proofs.YtffiddkignmobaaDoorTv
set_option maxRecDepth 8000
set_option maxHeartbeats 2000000
def tot : List (List Int) → Nat
  | [] => 0
  | r :: rs => r.length + tot rs
theorem tot_append : ∀ (l m : List (List Int)), tot (l ++ m) = tot l + tot m
  | [], m => by simp [tot]
  | r :: l, m => by simp only [List.cons_append, tot, tot_append l m]; omega
def bmp (c : List Int) (x : Int) : List Int := c.set (absI x).toNat (rd c (absI x) + 1)
def cntW (c w : List Int) : List Int := w.foldl bmp c
def cntG (ll : List (List Int)) : List Int := ll.foldl cntW (List.replicate 9 0)
@[simp] theorem bmp_len (c : List Int) (x : Int) : (bmp c x).length = c.length := by simp [bmp]
@[simp] theorem cntW_len : ∀ (w c : List Int), (cntW c w).length = c.length
  | [], c => rfl
  | x :: w, c => by
    show (cntW (bmp c x) w).length = _
    rw [cntW_len w (bmp c x), bmp_len]
theorem cntW_succ {c w : List Int} {i : Nat} (h : i < w.length) : cntW c (w.take (i + 1)) = bmp (cntW c (w.take i)) (rd w i) := by
  unfold cntW
  rw [take_succA h, List.foldl_append]; rfl
theorem cntG_succ {ll : List (List Int)} {i : Nat} (h : i < ll.length) : cntG (ll.take (i + 1)) = cntW (cntG (ll.take i)) (rdR ll i) := by
  unfold cntG
  rw [take_succB h, List.foldl_append]; rfl
theorem cntG_len (ll : List (List Int)) : (cntG ll).length = 9 := by
  have : ∀ (l : List (List Int)) (c : List Int), (l.foldl cntW c).length = c.length := fun l => by
    induction l with
    | nil => intro c; rfl
    | cons w l ih => intro c; rw [List.foldl_cons, ih, cntW_len]
  unfold cntG
  rw [this]; simp
/-- Small counts. -/
def Cb (n : Nat) (c : List Int) : Prop := c.length = 9 ∧ ∀ i : Int, 0 ≤ rd c i ∧ rd c i ≤ n
theorem Cb.bmp {n : Nat} {c : List Int} (h : Cb n c) {x : Int} (hx : 1 ≤ absI x ∧ absI x ≤ 8) : Cb (n + 1) (bmp c x) := by
  refine ⟨by rw [bmp_len]; exact h.1, fun i => ?_⟩
  have h1 := h.2 i
  have h2 := h.2 (absI x)
  unfold Go.Proofs.YtffiddkignmobaaDoorTv.bmp rd
  unfold rd at h1 h2
  rw [List.getD_eq_getElem?_getD, List.getElem?_set]
  rw [List.getD_eq_getElem?_getD] at h1 h2
  have h9 := h.1
  by_cases c1 : (absI x).toNat = i.toNat
  · rw [if_pos c1, if_pos (by omega)]
    simp only [Option.getD_some, List.getD_eq_getElem?_getD]
    omega
  · rw [if_neg c1]; omega
theorem Cb.zero : Cb 0 (List.replicate 9 0) := ⟨by simp, fun i => by
  unfold rd
  rw [List.getD_eq_getElem?_getD, List.getElem?_replicate]
  split <;> simp⟩
theorem Cb.le {n m : Nat} {c : List Int} (h : Cb n c) (hm : n ≤ m) : Cb m c := ⟨h.1, fun i => by have := h.2 i; omega⟩
theorem Cb.word {n : Nat} {c w : List Int} (h : Cb n c) (hw : ∀ x ∈ w, isLet x = true) : ∀ i, i ≤ w.length → Cb (n + i) (cntW c (w.take i))
  | 0, _ => by simpa [cntW] using h
  | i + 1, hi => by
    rw [cntW_succ (by omega)]
    exact (h.word hw i (by omega)).bmp (absI_let (hw _ (rd_memA (by omega))))
theorem Cb.rows {ll : List (List Int)} (hl : ∀ w ∈ ll, ∀ x ∈ w, isLet x = true) : ∀ i, i ≤ ll.length → Cb (tot (ll.take i)) (cntG (ll.take i))
  | 0, _ => by
    simp only [List.take_zero, tot, cntG, List.foldl_nil]
    exact Cb.zero
  | i + 1, hi => by
    have hm := rdR_memA (show i < ll.length by omega)
    have := (Cb.rows hl i (by omega)).word (hl _ hm) _ (Nat.le_refl _)
    rw [List.take_length, ← cntG_succ (by omega)] at this
    rw [take_succB (by omega), tot_append, ← take_succB (by omega)]
    simpa [tot] using this
theorem let_small {x : Int} (h : isLet x = true) : -1000000 ≤ x ∧ x ≤ 1000000 := by
  simp only [isLet, Bool.and_eq_true, decide_eq_true_eq] at h
  omega
theorem tot_take {ll : List (List Int)} (i : Nat) : tot (ll.take i) ≤ tot ll := by
  have := tot_append (ll.take i) (ll.drop i)
  rw [List.take_append_drop] at this
  omega
theorem letterCounts (ll : List (List Int)) (hlen : (ll.length : Int) ≤ 1048576) (hl : ∀ w ∈ ll, ∀ x ∈ w, isLet x = true) (ht : tot ll ≤ 1048576) : ConT Tryd.prog 199 [.ill ll] (.own 0 0 9) [.arr (.int .i64) (cntG ll) true] := by
  refine conT_of hmix hTab Tryd.func199 rfl rfl (by kernel_rfl) (by show 1 ≤ Tryd.f199.ntmps; decide) ?_
  refine stp ?_; try with_reducible exact True.intro
  refine ⟨Nat, fun i => i ≤ ll.length, fun i => ll.length - i, fun i => [(3, .own 0 0 9), (9, .ill ll), (10, .i ll.length), (11, .i i)], fun i => [.arr (.int .i64) (cntG (ll.take i)) true], ⟨0, (fitK [] [0]), Nat.zero_le _⟩, fun i hi => ?_⟩
  dsimp only at hi ⊢
  have hb := Cb.rows hl i hi
  have hc9 := cntG_len (ll.take i)
  refine stp ?_; try with_reducible exact True.intro
  refine Br.mk (fun h1 => ?_) (fun h1 => ?_) <;> simp [-Int.ofNat_toNat] at h1
  · have hm := rdR_memA h1
    have hlw := hl _ hm
    have hsu := cntG_succ h1
    have htt : tot (ll.take i) + (rdR ll i).length ≤ tot ll := by
      have := tot_take (ll := ll) (i + 1)
      rw [take_succB h1, tot_append] at this
      simpa [tot] using this
    generalize cntG (ll.take i) = c at *
    refine stp ?_; try with_reducible exact True.intro
    refine ⟨Nat, fun j => j ≤ (rdR ll i).length, fun j => (rdR ll i).length - j, fun j => [(3, .own 0 0 9), (9, .ill ll), (10, .i ll.length), (11, .i i), (15, .il (rdR ll i)), (16, .i (rdR ll i).length), (17, .i j)], fun j => [.arr (.int .i64) (cntW c ((rdR ll i).take j)) true], ⟨0, (fitK [] [0]), Nat.zero_le _⟩, fun j hj => ?_⟩
    dsimp only at hj ⊢
    have hb2 := hb.word hlw j hj
    have hl2 := cntW_len ((rdR ll i).take j) c
    refine stp ?_; try with_reducible exact True.intro
    refine Br.mk (fun h2 => ?_) (fun h2 => ?_) <;> simp [-Int.ofNat_toNat] at h2
    · have hx := hlw _ (rd_memA h2)
      have hab := absI_let hx
      have hs2 := cntW_succ (c := c) h2
      have hbb := hb2.2 (absI (rd (rdR ll i) j))
      have hsz := sizeI (rd (rdR ll i) j) (let_small hx)
      unfold bmp at hs2
      generalize cntW c ((rdR ll i).take j) = d at *
      generalize absI (rd (rdR ll i) j) = ax at *
      have o1 : @Eq Int (rdT (.int .i64) d ((Int.toNat (ax) : Nat) : Int)) (rd d (ax)) := rfl
      refine stp ?_; try with_reducible exact True.intro
      refine useT (hsz.toT) ?_; try with_reducible exact True.intro
      refine ⟨j + 1, ⟨.frz [], [0], ⟨rfl, rfl, rfl, rfl, rfl, rfl, rfl, trivial⟩, ⟨?_, trivial⟩, by decide, rfl, rfl, rfl⟩, h2, by first | ((try dsimp only); omega) | (simp; omega)⟩
      rw [hs2]; rfl
    · obtain rfl : j = (rdR ll i).length := by omega
      rw [List.take_length] at *
      refine stp ?_; try with_reducible exact True.intro
      refine ⟨i + 1, ⟨.frz [], [0], ⟨rfl, rfl, rfl, rfl, trivial⟩, ⟨?_, trivial⟩, by decide, rfl, rfl, rfl⟩, h1, by first | ((try dsimp only); omega) | (simp; omega)⟩
      rw [hsu]; rfl
  · obtain rfl : i = ll.length := by omega
    rw [List.take_length] at *
    refine stp ?_; try with_reducible exact True.intro
    exact (fitK [] [0])
theorem l3Uses (ll : List (List Int)) (hlen : (ll.length : Int) ≤ 1048576) (hl : ∀ w ∈ ll, ∀ x ∈ w, isLet x = true) (ht : tot ll ≤ 1048576) : ConT Tryd.prog 193 [.ill ll] (.own 0 0 9) [.arr (.int .i64) (cntG ll) true] := by
  refine conT_of hmix hTab Tryd.func193 rfl rfl (by kernel_rfl) (by show 1 ≤ Tryd.f193.ntmps; decide) ?_
  refine stp ?_; try with_reducible exact True.intro
  refine ⟨Nat, fun i => i ≤ ll.length, fun i => ll.length - i, fun i => [(0, .ill ll), (3, .own 0 0 9), (4, .i i)], fun i => [.arr (.int .i64) (cntG (ll.take i)) true], ⟨0, (fitK [] [0]), Nat.zero_le _⟩, fun i hi => ?_⟩
  dsimp only at hi ⊢
  have hb := Cb.rows hl i hi
  have hc9 := cntG_len (ll.take i)
  refine stp ?_; try with_reducible exact True.intro
  refine Br.mk (fun h1 => ?_) (fun h1 => ?_) <;> simp [-Int.ofNat_toNat] at h1
  · have hm := rdR_memA h1
    have hlw := hl _ hm
    have hsu := cntG_succ h1
    have htt : tot (ll.take i) + (rdR ll i).length ≤ tot ll := by
      have := tot_take (ll := ll) (i + 1)
      rw [take_succB h1, tot_append] at this
      simpa [tot] using this
    generalize cntG (ll.take i) = c at *
    have ql : List.length (rdT (.list (.int .i64)) ll (i : Int)) = (rdR ll i).length := rfl
    refine stp ?_; try with_reducible exact True.intro
    refine ⟨Nat, fun j => j ≤ (rdR ll i).length, fun j => (rdR ll i).length - j, fun j => [(0, .ill ll), (3, .own 0 0 9), (4, .i i), (5, .i j)], fun j => [.arr (.int .i64) (cntW c ((rdR ll i).take j)) true], ⟨0, (fitK [] [0]), Nat.zero_le _⟩, fun j hj => ?_⟩
    dsimp only at hj ⊢
    have hb2 := hb.word hlw j hj
    have hl2 := cntW_len ((rdR ll i).take j) c
    refine stp ?_; try with_reducible exact True.intro
    refine Br.mk (fun h2 => ?_) (fun h2 => ?_) <;> simp [-Int.ofNat_toNat] at h2
    · replace h2 : j < (rdR ll i).length := h2
      have hx := hlw _ (rd_memA h2)
      have hab := absI_let hx
      have hs2 := cntW_succ (c := c) h2
      have hbb := hb2.2 (absI (rd (rdR ll i) j))
      have hsz := l3Abs (rd (rdR ll i) j) (let_small hx)
      unfold bmp at hs2
      generalize cntW c ((rdR ll i).take j) = d at *
      generalize absI (rd (rdR ll i) j) = ax at *
      have o1 : @Eq Int (rdT (.int .i64) d ((Int.toNat (ax) : Nat) : Int)) (rd d (ax)) := rfl
      refine stp ?_; try with_reducible exact True.intro
      refine .inl ⟨_, _, hsz, by repeat (first | exact trivial | refine ⟨by first | exact rfl | exact trivial | exact ⟨_, rfl, rfl⟩ | exact ⟨_, _, rfl, by first | (simp; done) | (simp; omega), by first | (simp; done) | (simp [List.take_of_length_le]; done) | (rw [List.drop_zero]; exact List.take_of_length_le (by first | omega | (simp; omega))) | (simp [List.take_of_length_le]; omega)⟩ | exact ⟨_, rfl, by first | (simp; done) | (simp; omega), by first | (simp; done) | (simp [List.take_of_length_le]; done) | (rw [List.drop_zero]; exact List.take_of_length_le (by first | omega | (simp; omega))) | (simp [List.take_of_length_le]; omega)⟩, ?_⟩), ?_⟩; refine stp ?_; try with_reducible exact True.intro
      refine .inl ⟨_, _, hsz, by repeat (first | exact trivial | refine ⟨by first | exact rfl | exact trivial | exact ⟨_, rfl, rfl⟩ | exact ⟨_, _, rfl, by first | (simp; done) | (simp; omega), by first | (simp; done) | (simp [List.take_of_length_le]; done) | (rw [List.drop_zero]; exact List.take_of_length_le (by first | omega | (simp; omega))) | (simp [List.take_of_length_le]; omega)⟩ | exact ⟨_, rfl, by first | (simp; done) | (simp; omega), by first | (simp; done) | (simp [List.take_of_length_le]; done) | (rw [List.drop_zero]; exact List.take_of_length_le (by first | omega | (simp; omega))) | (simp [List.take_of_length_le]; omega)⟩, ?_⟩), ?_⟩; refine stp ?_; try with_reducible exact True.intro
      refine ⟨j + 1, ⟨.frz [], [0], ⟨rfl, rfl, rfl, rfl, trivial⟩, ⟨?_, trivial⟩, by decide, rfl, rfl, rfl⟩, h2, by first | ((try dsimp only); omega) | (simp; omega)⟩
      rw [hs2]; rfl
    · replace h2 : (rdR ll i).length ≤ j := h2
      obtain rfl : j = (rdR ll i).length := by omega
      rw [List.take_length] at *
      refine stp ?_; try with_reducible exact True.intro
      refine ⟨i + 1, ⟨.frz [], [0], ⟨rfl, rfl, rfl, trivial⟩, ⟨?_, trivial⟩, by decide, rfl, rfl, rfl⟩, h1, by first | ((try dsimp only); omega) | (simp; omega)⟩
      rw [hsu]; rfl
  · obtain rfl : i = ll.length := by omega
    rw [List.take_length] at *
    refine stp ?_; try with_reducible exact True.intro
    exact (fitK [] [0])
end Go.Proofs.YtffiddkignmobaaDoorTv
end
section
open Go Go.Proofs.YtffiddkignmobaaDoorVe Go.Proofs.YtffiddkignmobaaDoorTv Go.Proofs
namespace Go.Proofs.YtffiddkignmobaaDoorTv
set_option maxRecDepth 8000
set_option maxHeartbeats 2000000
def rowG (w : List Int) : Bool := !w.isEmpty && wordOk w
def isGl (ll : List (List Int)) : Bool := ll.all rowG && (decide (1 ≤ (ll.length : Int) ∧ (ll.length : Int) ≤ 4) && (decide ((tot ll : Int) ≤ 20) && (cntG ll).all fun k => decide (k ≤ 2)))
theorem rowG_facts {w : List Int} (h : rowG w = true) : w ≠ [] ∧ wordOk w = true ∧ w.length ≤ 24 ∧ ∀ x ∈ w, isLet x = true := by
  simp only [rowG, Bool.and_eq_true, Bool.not_eq_true', List.isEmpty_eq_false_iff] at h
  have h2 := h.2
  simp only [wordOk, Bool.and_eq_true, decide_eq_true_eq, List.all_eq_true] at h2
  exact ⟨h.1, h.2, h2.2, h2.1⟩
theorem tot_le {ll : List (List Int)} (h : ∀ w ∈ ll, rowG w = true) : tot ll ≤ 24 * ll.length := by
  induction ll with
  | nil => simp [tot]
  | cons w ll ih =>
    have := ih fun q hq => h q (by simp [hq])
    have := (rowG_facts (h w (by simp))).2.2.1
    simp only [tot, List.length_cons]; omega
theorem all_two (c : List Int) : ∀ i, i ≤ c.length → ((c.drop i).all fun k => decide (k ≤ 2)) = (c.all fun k => decide (k ≤ 2)) → (c.drop i).all (fun k => decide (k ≤ 2)) = c.all fun k => decide (k ≤ 2) := fun _ _ h => h
theorem IsGluingI (ll : List (List Int)) (hlen : (ll.length : Int) ≤ 1000) (hr : ∀ w ∈ ll, (w.length : Int) ≤ 1000) : ConS Tryd.prog 96 [.ill ll] (.b (isGl ll)) := by
  refine conS_of hmix hTab Tryd.func96 rfl rfl (by kernel_rfl) (by show 1 ≤ Tryd.f96.ntmps; decide) rfl ?_
  refine stp ?_; try with_reducible exact True.intro
  refine useT ((within ll.length 1 4).toT) ?_; try with_reducible exact True.intro
  by_cases h4 : 1 ≤ (ll.length : Int) ∧ (ll.length : Int) ≤ 4
  · have hI : isGl ll = (ll.all rowG && (decide ((tot ll : Int) ≤ 20) && (cntG ll).all fun k => decide (k ≤ 2))) := by
      rw [isGl, decide_eq_true h4, Bool.true_and]
    rw [hI]
    simp only [h4, and_self, decide_true]
    refine stp ?_; try with_reducible exact True.intro
    refine ⟨Nat, fun i => i ≤ ll.length ∧ (∀ w ∈ ll.take i, rowG w = true) ∧ (ll.drop i).all rowG = ll.all rowG, fun i => ll.length - i, fun i => [(0, .ill ll), (3, .i (tot (ll.take i))), (12, .ill ll), (13, .i ll.length), (14, .i i)], fun i => [], ⟨0, (fitK [] []), by simp⟩, fun i ⟨hi, hok, hc⟩ => ?_⟩
    dsimp only at hi hok hc ⊢
    have htl := tot_le hok
    rw [List.length_take] at htl
    refine stp ?_; try with_reducible exact True.intro
    refine Br.mk (fun h1 => ?_) (fun h1 => ?_) <;> simp [-Int.ofNat_toNat] at h1
    · have hm := hr _ (rdR_memA h1)
      have hts : tot (ll.take (i + 1)) = tot (ll.take i) + (rdR ll i).length := by rw [take_succB h1, tot_append]; simp [tot]
      rw [drop_consB h1, List.all_cons] at hc
      have hw := IsWordI (rdR ll i) (by omega)
      have ql : List.length (rdT (.list (.int .i64)) ll (i : Int)) = (rdR ll i).length := rfl
      refine stp ?_; try with_reducible exact True.intro
      by_cases he : (rdR ll i).length = 0
      · have hrow : rowG (rdR ll i) = false := by
          rw [List.length_eq_zero_iff.1 he]; rfl
        rw [hrow, Bool.false_and] at hc
        rw [← hc, Bool.false_and]
        refine brT (decide_eq_true (by omega)) ?_
        refine stp ?_; try with_reducible exact True.intro
      · have hrow : rowG (rdR ll i) = wordOk (rdR ll i) := by
          have : (rdR ll i).isEmpty = false := by
            rw [List.isEmpty_eq_false_iff]
            exact fun e => he (by rw [e]; rfl)
          simp [rowG, this]
        refine brF (decide_eq_false (by omega)) ?_
        cases hwo : wordOk (rdR ll i) with
        | true =>
          rw [hwo] at hw hrow
          rw [hrow, Bool.true_and] at hc
          refine stp ?_; try with_reducible exact True.intro
          refine useT (hw.toT) ?_; try with_reducible exact True.intro
          refine ⟨i + 1, ⟨.frz [], [], ⟨rfl, ?_, rfl, rfl, rfl, trivial⟩, trivial, by decide, rfl, rfl, rfl⟩, ⟨h1, fun w hw2 => ?_, hc⟩, by first | ((try dsimp only); omega) | (simp; omega)⟩
          · show V.i _ = V.i _
            rw [hts]
            rfl
          rw [take_succB h1] at hw2
          rcases List.mem_append.1 hw2 with h | h
          · exact hok w h
          · rw [List.mem_singleton] at h; rw [h]; exact hrow
        | false =>
          rw [hwo] at hw hrow
          rw [hrow, Bool.false_and] at hc
          rw [← hc, Bool.false_and]
          refine stp ?_; try with_reducible exact True.intro
          refine useT (hw.toT) ?_; try with_reducible exact True.intro
    · obtain rfl : i = ll.length := by omega
      rw [List.take_length] at *
      rw [List.drop_length, List.all_nil] at hc
      rw [← hc, Bool.true_and]
      refine stp ?_; try with_reducible exact True.intro
      refine Br.mk (fun h2 => ?_) (fun h2 => ?_) <;> simp [-Int.ofNat_toNat] at h2
      · have h20 : ¬ (tot ll : Int) ≤ 20 := by omega
        refine stp ?_; try with_reducible exact True.intro
        simp [h20]
      · have h20 : (tot ll : Int) ≤ 20 := by omega
        rw [decide_eq_true h20, Bool.true_and]
        have hlc := letterCounts ll (by omega) (fun w hw => (rowG_facts (hok w hw)).2.2.2) (by omega)
        have h9 := cntG_len ll
        generalize cntG ll = c at *
        refine stp ?_; try with_reducible exact True.intro
        refine useT (hlc) ?_; try with_reducible exact True.intro
        refine ⟨Nat, fun j => j ≤ c.length ∧ ((c.drop j).all fun k => decide (k ≤ 2)) = c.all fun k => decide (k ≤ 2), fun j => c.length - j, fun j => [(34, .own 0 0 9), (35, .i 9), (36, .i j)], fun j => [.arr (.int .i64) c true], ⟨0, (fitK [] [0]), by simp⟩, fun j ⟨hj, hcj⟩ => ?_⟩
        dsimp only at hj hcj ⊢
        refine stp ?_; try with_reducible exact True.intro
        refine Br.mk (fun h3 => ?_) (fun h3 => ?_) <;> simp [-Int.ofNat_toNat] at h3
        · rw [drop_consA (by omega), List.all_cons] at hcj
          refine stp ?_; try with_reducible exact True.intro
          refine Br.mk (fun h5 => ?_) (fun h5 => ?_) <;> simp only [decide_eq_true_eq, decide_eq_false_iff_not, ne_eq, Decidable.not_not, Bool.not_eq_eq_eq_not, Bool.not_true, Bool.not_false] at h5
          · replace h5 : ¬ rd c j ≤ 2 := by
              have : @Eq Int (rdT (.int .i64) c ((Int.toNat (j : Int) : Nat) : Int)) (rd c j) := rfl
              omega
            rw [decide_eq_false h5, Bool.false_and] at hcj
            rw [← hcj]
            refine stp ?_; try with_reducible exact True.intro
          · replace h5 : rd c j ≤ 2 := by
              have : @Eq Int (rdT (.int .i64) c ((Int.toNat (j : Int) : Nat) : Int)) (rd c j) := rfl
              omega
            rw [decide_eq_true h5, Bool.true_and] at hcj
            refine stp ?_; try with_reducible exact True.intro
            exact ⟨j + 1, (fitK [] [0]), ⟨by omega, hcj⟩, by first | ((try dsimp only); omega) | (simp; omega)⟩
        · obtain rfl : j = c.length := by omega
          rw [List.drop_length, List.all_nil] at hcj
          rw [← hcj]
          refine stp ?_; try with_reducible exact True.intro
  · have hI : isGl ll = false := by rw [isGl, decide_eq_false h4, Bool.false_and, Bool.and_false]
    rw [hI]
    simp only [h4, decide_false]
    refine stp ?_; try with_reducible exact True.intro
theorem IsGluingS (ll : List (List Int)) (hlen : (ll.length : Int) ≤ 1000) (hr : ∀ w ∈ ll, (w.length : Int) ≤ 1000) : ConS Tryd.prog 90 [.ill ll] (.b (isGl ll)) := by
  refine conS_of hmix hTab Tryd.func90 rfl rfl (by kernel_rfl) (by show 1 ≤ Tryd.f90.ntmps; decide) rfl ?_
  refine stp ?_; try with_reducible exact True.intro
  refine ⟨Nat, fun i => i ≤ ll.length ∧ (∀ w ∈ ll.take i, rowG w = true) ∧ (ll.drop i).all rowG = ll.all rowG, fun i => ll.length - i, fun i => [(0, .ill ll), (3, .i (tot (ll.take i))), (4, .i i)], fun i => [], ⟨0, (fitK [] []), by simp⟩, fun i ⟨hi, hok, hc⟩ => ?_⟩
  dsimp only at hi hok hc ⊢
  have htl := tot_le hok
  rw [List.length_take] at htl
  refine stp ?_; try with_reducible exact True.intro
  refine Br.mk (fun h1 => ?_) (fun h1 => ?_) <;> simp [-Int.ofNat_toNat] at h1
  · have hm := hr _ (rdR_memA h1)
    have hts : tot (ll.take (i + 1)) = tot (ll.take i) + (rdR ll i).length := by rw [take_succB h1, tot_append]; simp [tot]
    rw [drop_consB h1, List.all_cons] at hc
    have hw := IsWordS (rdR ll i) (by omega)
    have ql : List.length (rdT (.list (.int .i64)) ll (i : Int)) = (rdR ll i).length := rfl
    refine stp ?_; try with_reducible exact True.intro
    by_cases he : (rdR ll i).length = 0
    · have hrow : rowG (rdR ll i) = false := by
        rw [List.length_eq_zero_iff.1 he]; rfl
      rw [hrow, Bool.false_and] at hc
      rw [isGl, ← hc, Bool.false_and]
      refine brT (decide_eq_true (by omega)) ?_
      refine stp ?_; try with_reducible exact True.intro
    · have hrow : rowG (rdR ll i) = wordOk (rdR ll i) := by
        have : (rdR ll i).isEmpty = false := by
          rw [List.isEmpty_eq_false_iff]
          exact fun e => he (by rw [e]; rfl)
        simp [rowG, this]
      refine brF (decide_eq_false (by omega)) ?_
      cases hwo : wordOk (rdR ll i) with
      | true =>
        rw [hwo] at hw hrow
        rw [hrow, Bool.true_and] at hc
        refine stp ?_; try with_reducible exact True.intro
        refine useT (hw.toT) ?_; try with_reducible exact True.intro
        refine ⟨i + 1, ⟨.frz [], [], ⟨rfl, ?_, rfl, trivial⟩, trivial, by decide, rfl, rfl, rfl⟩, ⟨h1, fun w hw2 => ?_, hc⟩, by first | ((try dsimp only); omega) | (simp; omega)⟩
        · show V.i _ = V.i _
          rw [hts]
          rfl
        rw [take_succB h1] at hw2
        rcases List.mem_append.1 hw2 with h | h
        · exact hok w h
        · rw [List.mem_singleton] at h; rw [h]; exact hrow
      | false =>
        rw [hwo] at hw hrow
        rw [hrow, Bool.false_and] at hc
        rw [isGl, ← hc, Bool.false_and]
        refine stp ?_; try with_reducible exact True.intro
        refine useT (hw.toT) ?_; try with_reducible exact True.intro
  · obtain rfl : i = ll.length := by omega
    rw [List.take_length] at *
    rw [List.drop_length, List.all_nil] at hc
    rw [isGl, ← hc, Bool.true_and]
    refine stp ?_; try with_reducible exact True.intro
    refine useT ((l1In ll.length 1 4).toT) ?_; try with_reducible exact True.intro
    by_cases h4 : 1 ≤ (ll.length : Int) ∧ (ll.length : Int) ≤ 4
    · simp only [h4, and_self, decide_true, Bool.true_and]
      refine stp ?_; try with_reducible exact True.intro
      refine Br.mk (fun h2 => ?_) (fun h2 => ?_) <;> simp [-Int.ofNat_toNat] at h2
      · have h20 : ¬ (tot ll : Int) ≤ 20 := by omega
        refine stp ?_; try with_reducible exact True.intro
        simp [h20]
      · have h20 : (tot ll : Int) ≤ 20 := by omega
        rw [decide_eq_true h20, Bool.true_and]
        have hlc := l3Uses ll (by omega) (fun w hw => (rowG_facts (hok w hw)).2.2.2) (by omega)
        have h9 := cntG_len ll
        generalize cntG ll = c at *
        refine stp ?_; try with_reducible exact True.intro
        refine useT (hlc) ?_; try with_reducible exact True.intro
        refine ⟨Nat, fun j => j ≤ c.length ∧ ((c.drop j).all fun k => decide (k ≤ 2)) = c.all fun k => decide (k ≤ 2), fun j => c.length - j, fun j => [(5, .own 0 0 9), (6, .i j)], fun j => [.arr (.int .i64) c true], ⟨0, (fitK [] [0]), by simp⟩, fun j ⟨hj, hcj⟩ => ?_⟩
        dsimp only at hj hcj ⊢
        refine stp ?_; try with_reducible exact True.intro
        refine Br.mk (fun h3 => ?_) (fun h3 => ?_) <;> simp [-Int.ofNat_toNat] at h3
        · rw [drop_consA (by omega), List.all_cons] at hcj
          refine stp ?_; try with_reducible exact True.intro
          refine Br.mk (fun h5 => ?_) (fun h5 => ?_) <;> simp only [decide_eq_true_eq, decide_eq_false_iff_not, ne_eq, Decidable.not_not, Bool.not_eq_eq_eq_not, Bool.not_true, Bool.not_false] at h5
          · replace h5 : ¬ rd c j ≤ 2 := by
              have : @Eq Int (rdT (.int .i64) c ((Int.toNat (j : Int) : Nat) : Int)) (rd c j) := rfl
              omega
            rw [decide_eq_false h5, Bool.false_and] at hcj
            rw [← hcj]
            refine stp ?_; try with_reducible exact True.intro
          · replace h5 : rd c j ≤ 2 := by
              have : @Eq Int (rdT (.int .i64) c ((Int.toNat (j : Int) : Nat) : Int)) (rd c j) := rfl
              omega
            rw [decide_eq_true h5, Bool.true_and] at hcj
            refine stp ?_; try with_reducible exact True.intro
            exact ⟨j + 1, (fitK [] [0]), ⟨by omega, hcj⟩, by first | ((try dsimp only); omega) | (simp; omega)⟩
        · obtain rfl : j = c.length := by omega
          rw [List.drop_length, List.all_nil] at hcj
          rw [← hcj]
          refine stp ?_; try with_reducible exact True.intro
    · simp only [h4, decide_false, Bool.false_and]
      refine stp ?_; try with_reducible exact True.intro
end Go.Proofs.YtffiddkignmobaaDoorTv
end
section
open Go Go.Proofs.YtffiddkignmobaaDoorVe Go.Proofs.YtffiddkignmobaaDoorTv Go.Proofs
namespace Go.Proofs.YtffiddkignmobaaDoorTv
set_option maxRecDepth 8000
set_option maxHeartbeats 2000000
def spB (s : ByteArray) (b : Int) : Nat → List ByteArray × Nat
  | 0 => ([], 0)
  | i + 1 => if byteAt s i = b then ((spB s b i).1 ++ [s.extract (spB s b i).2 i], i + 1) else spB s b i
def split (s : ByteArray) (b : Int) : List ByteArray := (spB s b s.size).1 ++ [s.extract (spB s b s.size).2 s.size]
theorem spB_le (s : ByteArray) (b : Int) : ∀ i, (spB s b i).2 ≤ i ∧ (spB s b i).1.length ≤ i
  | 0 => ⟨Nat.le_refl _, Nat.le_refl _⟩
  | i + 1 => by
    obtain ⟨h1, h2⟩ := spB_le s b i
    unfold spB
    split
    · exact ⟨Nat.le_refl _, by simp; omega⟩
    · exact ⟨by omega, by omega⟩
theorem split_len (s : ByteArray) (b : Int) : (split s b).length ≤ s.size + 1 := by
  have := (spB_le s b s.size).2
  simp [split]; omega
def letC (c : Int) : Option Int := if 97 ≤ c ∧ c ≤ 104 then some (c - 96) else if 65 ≤ c ∧ c ≤ 72 then some (64 - c) else none
def lets (s : ByteArray) : Nat → Option (List Int)
  | 0 => some []
  | i + 1 => match lets s i, letC (byteAt s i) with
    | some l, some x => some (l ++ [x])
    | _, _ => none
theorem lets_len (s : ByteArray) : ∀ (i : Nat) (l : List Int), lets s i = some l → l.length = i
  | 0, l, h => by
    injection h with h
    rw [← h]; rfl
  | i + 1, l, h => by
    unfold lets at h
    split at h
    · rename_i l0 x h1 h2
      injection h with h
      have := lets_len s i l0 h1
      rw [← h]; simp [this]
    · cases h
theorem lets_none (s : ByteArray) {i : Nat} (h : lets s i = none) : ∀ j, i ≤ j → lets s j = none
  | 0, hj => by
    obtain rfl : i = 0 := by omega
    exact h
  | j + 1, hj => by
    by_cases e : i = j + 1
    · rw [← e]; exact h
    · rw [lets, lets_none s h j (by omega)]
def isDash (s : ByteArray) : Bool := s.toList == (ByteArray.mk #[45]).toList
def parseW (s : ByteArray) : Option (List Int) := match isDash s with
  | true => some []
  | false => match lets s s.size with
    | some l => if l.length = 0 ∨ 24 < l.length then none else some l
    | none => none
theorem byteAt_rng (s : ByteArray) (i : Int) : 0 ≤ byteAt s i ∧ byteAt s i ≤ 255 := by
  unfold byteAt
  cases h : s.data[i.toNat]? with
  | none => simp
  | some c =>
    have := c.toNat_lt
    simp; omega
def resW : Option (List Int) → V
  | some l => .tup [.own 0 0 l.length, .b true]
  | none => .tup [.nil .unit, .b false]
def obW : Option (List Int) → List Obj
  | some l => [.arr (.int .i64) l true]
  | none => []
def resW0 : Option (List Int) → V
  | some l => .tup [.own 0 0 l.length, .b true]
  | none => .tup [.own 0 0 0, .b false]
def obW0 : Option (List Int) → List Obj
  | some l => [.arr (.int .i64) l true]
  | none => [.arr (.int .i64) [] true]
theorem isDash_empty (s : ByteArray) (h : s.size = 0) : isDash s = false := by
  unfold isDash
  rw [ByteArray.toList_eq, ByteArray.toList_eq]
  have : s.data.toList = [] := List.eq_nil_of_length_eq_zero (by simpa using h)
  rw [this]; rfl
theorem empty_eq (s : ByteArray) : (s.toList == (ByteArray.mk #[]).toList) = decide (s.size = 0) := by
  rw [ByteArray.toList_eq, ByteArray.toList_eq]
  by_cases h : s.size = 0
  · have : s.data.toList = [] := List.eq_nil_of_length_eq_zero (by simpa using h)
    rw [this, decide_eq_true h]; rfl
  · have : s.data.toList ≠ [] := fun e => h (by
      have := congrArg List.length e
      simpa using this)
    rw [decide_eq_false h]
    simpa using this
end Go.Proofs.YtffiddkignmobaaDoorTv
end
section
open Go Go.Proofs.YtffiddkignmobaaDoorVe Go.Proofs.YtffiddkignmobaaDoorTv Go.Proofs
namespace Go.Proofs.YtffiddkignmobaaDoorTv
set_option maxRecDepth 8000
set_option maxHeartbeats 2000000
/-- The words of a text; none if one is none. -/
def words (ps : List ByteArray) : Nat → Option (List (List Int))
  | 0 => some []
  | k + 1 => match words ps k, parseW (rdT .str ps k) with
    | some l, some w => some (l ++ [w])
    | _, _ => none
theorem words_none {ps : List ByteArray} {i : Nat} (h : words ps i = none) : ∀ j, i ≤ j → words ps j = none
  | 0, hj => by
    obtain rfl : i = 0 := by omega
    exact h
  | j + 1, hj => by
    by_cases e : i = j + 1
    · rw [← e]; exact h
    · rw [words, words_none h j (by omega)]
def parseG (s : ByteArray) : Option (List (List Int)) := match words (split s 32) (split s 32).length with
  | some g => if isGl g = true then some g else none
  | none => none
theorem parseW_len {s : ByteArray} {w : List Int} (h : parseW s = some w) : w.length ≤ 24 := by
  unfold parseW at h
  split at h
  · injection h with h; rw [← h]; simp
  · split at h
    · split at h
      · cases h
      · rename_i h1
        injection h with h
        rw [← h]; omega
    · cases h
theorem words_len {ps : List ByteArray} : ∀ (k : Nat) (l : List (List Int)), words ps k = some l → l.length = k ∧ ∀ w ∈ l, w.length ≤ 24
  | 0, l, h => by
    injection h with h
    rw [← h]; simp
  | k + 1, l, h => by
    unfold words at h
    split at h
    · rename_i l0 w h1 h2
      injection h with h
      obtain ⟨h3, h4⟩ := words_len k l0 h1
      rw [← h]
      refine ⟨by simp [h3], fun x hx => ?_⟩
      rcases List.mem_append.1 hx with hx | hx
      · exact h4 x hx
      · rw [List.mem_singleton] at hx; rw [hx]; exact parseW_len h2
    · cases h
theorem words_nil {ps : List ByteArray} : ∀ (k j : Nat) (l : List (List Int)), words ps k = some l → j < k → parseW (rdT .str ps j) = some (rdR l j)
  | 0, j, l, h, hj => by omega
  | k + 1, j, l, h, hj => by
    unfold words at h
    split at h
    · rename_i l0 w h1 h2
      injection h with h
      obtain ⟨h3, h4⟩ := words_len k l0 h1
      rw [← h]
      by_cases e : j = k
      · subst e
        rw [h2]
        congr 1
        simp [rdR, ← h3]
      · rw [words_nil k j l0 h1 (by omega)]
        congr 1
        simp [rdR, List.getElem?_append_left (show j < l0.length by omega)]
    · cases h
def resG : Option (List (List Int)) → V
  | some l => .tup [.own 0 0 l.length, .b true]
  | none => .tup [.nil .unit, .b false]
def obG : Option (List (List Int)) → List Obj
  | some l => [.arr (.list (.int .i64)) l true]
  | none => []
def resG0 : Option (List (List Int)) → V
  | some l => .tup [.own 0 0 l.length, .b true]
  | none => .tup [.own 0 0 0, .b false]
def obG0 : Option (List (List Int)) → List Obj
  | some l => [.arr (.list (.int .i64)) l true]
  | none => [.arr (.list (.int .i64)) [] true]
end Go.Proofs.YtffiddkignmobaaDoorTv
end
section
open Go Go.Proofs.YtffiddkignmobaaDoorVe Go.Proofs.YtffiddkignmobaaDoorTv Go.Proofs
namespace Go.Proofs.YtffiddkignmobaaDoorTv
set_option maxRecDepth 8000
set_option maxHeartbeats 2000000
theorem ext_size (s : ByteArray) (a b : Nat) : (s.extract a b).size ≤ s.size := by
  simp [ByteArray.size_extract]; omega
theorem split_size {s : ByteArray} {b : Int} : ∀ q ∈ split s b, q.size ≤ s.size := fun q hq => by
  have : ∀ i, ∀ q ∈ (spB s b i).1, q.size ≤ s.size := fun i => by
    induction i with
    | zero => intro q hq; cases hq
    | succ i ih =>
      intro q hq
      unfold spB at hq
      split at hq
      · rcases List.mem_append.1 hq with h | h
        · exact ih q h
        · rw [List.mem_singleton] at h; rw [h]; exact ext_size _ _ _
      · exact ih q hq
  rcases List.mem_append.1 hq with h | h
  · exact this _ q h
  · rw [List.mem_singleton] at h; rw [h]; exact ext_size _ _ _
end Go.Proofs.YtffiddkignmobaaDoorTv
end
section
open Go Go.Proofs.YtffiddkignmobaaDoorVe Go.Proofs.YtffiddkignmobaaDoorTv Go.Proofs
namespace Go.Proofs.YtffiddkignmobaaDoorTv
set_option maxRecDepth 8000
set_option maxHeartbeats 2000000
def exT : List ByteArray := [⟨#[97, 98, 65, 66]⟩, ⟨#[97, 98, 65, 66, 99, 100, 67, 68]⟩, ⟨#[97, 97, 98, 98]⟩, ⟨#[97, 98, 99, 65, 66, 67]⟩, ⟨#[97, 98, 65, 99, 32, 100, 67, 98, 68]⟩, ⟨#[97, 97, 98, 99, 66, 67]⟩]
def exText (k : Int) : ByteArray := if 1 ≤ k ∧ k ≤ 6 then rdT .str exT (k - 1) else ⟨#[]⟩
theorem exText_small (k : Int) : (exText k).size ≤ 24 := by
  unfold exText
  split
  · have : k = 1 ∨ k = 2 ∨ k = 3 ∨ k = 4 ∨ k = 5 ∨ k = 6 := by omega
    rcases this with rfl | rfl | rfl | rfl | rfl | rfl <;> decide
  · decide
theorem parseG_empty : parseG ⟨#[]⟩ = none := by decide +kernel
def exG (k : Int) : Option (List (List Int)) := parseG (exText k)
end Go.Proofs.YtffiddkignmobaaDoorTv
end
section
open Go Go.Proofs.YtffiddkignmobaaDoorVe Go.Proofs.YtffiddkignmobaaDoorTv Go.Proofs
namespace Go.Proofs.YtffiddkignmobaaDoorTv
set_option maxRecDepth 8000
set_option maxHeartbeats 2000000
def szW (x : Int) : Int := maxI x (IntKind.wrap .i64 (-x))
theorem szW_small {x : Int} (h : -1000000 ≤ x ∧ x ≤ 1000000) : szW x = absI x := by
  unfold szW absI maxI
  rw [IntWalk.i64_in _ (by omega)]
  by_cases c : -x > x
  · rw [if_pos c, Int.max_eq_right (by omega)]
  · rw [if_neg c, Int.max_eq_left (by omega)]
theorem sizeW (x : Int) : ConS Tryd.prog 182 [.i x] (.i (szW x)) := by
  by_cases hr : -1000000 ≤ x ∧ x ≤ 1000000
  · rw [szW_small hr]; exact sizeI x hr
  refine conS_of hmix hTab Tryd.func182 rfl rfl (by kernel_rfl) (by show 1 ≤ Tryd.f182.ntmps; decide) rfl ?_
  refine stp ?_; try with_reducible exact True.intro
  refine OrW.wrap ?_
  refine stp ?_; try with_reducible exact True.intro
  rfl
theorem l3AbsW (x : Int) : ConS Tryd.prog 128 [.i x] (.i (max x (IntKind.wrap .i64 (-x)))) := by
  by_cases hr : -1000000 ≤ x ∧ x ≤ 1000000
  · have := l3Abs x hr
    unfold absI at this
    rw [IntWalk.i64_in _ (by omega)]; exact this
  refine conS_of hmix hTab Tryd.func128 rfl rfl (by kernel_rfl) (by show 1 ≤ Tryd.f128.ntmps; decide) rfl ?_
  refine stp ?_; try with_reducible exact True.intro
  refine OrW.wrap ?_
  refine stp ?_; try with_reducible exact True.intro
  refine useT ((l1MaxA x (IntKind.wrap .i64 (-x))).toT) ?_; try with_reducible exact True.intro
/-- A word of the letters 1 and 2. -/
def two (x : Int) : Bool := decide (-2 ≤ x ∧ x ≤ 2)
def cvOk (w : List Int) : Bool := w.all two && wordOk w
theorem cv_bad {w : List Int} {x : Int} (hx : x ∈ w) (h : ¬ (-2 ≤ x ∧ x ≤ 2)) : cvOk w = false := by
  unfold cvOk
  have : w.all two = false := by
    rw [List.all_eq_false]
    exact ⟨x, hx, by simpa [two] using h⟩
  rw [this]; rfl
theorem cv_good {w : List Int} (h : ∀ x ∈ w, (-1000000 ≤ x ∧ x ≤ 1000000) → -2 ≤ x ∧ x ≤ 2) : cvOk w = wordOk w := by
  unfold cvOk
  by_cases hw : wordOk w = true
  · have h2 := hw
    simp only [wordOk, Bool.and_eq_true, decide_eq_true_eq, List.all_eq_true] at h2
    have : w.all two = true := by
      rw [List.all_eq_true]
      intro x hx
      have h3 := h2.1 x hx
      simp only [isLet, Bool.and_eq_true, decide_eq_true_eq] at h3
      have := h x hx (by omega)
      simpa [two] using this
    rw [this, hw]; rfl
  · simp only [Bool.not_eq_true] at hw
    rw [hw, Bool.and_false]
theorem hasLetters (w : List Int) (hw : (w.length : Int) ≤ 274877906944) : ConS Tryd.prog 138 [.il w, .i 2] (.b (cvOk w)) := by
  refine conS_of hmix hTab Tryd.func138 rfl rfl (by kernel_rfl) (by show 2 ≤ Tryd.f138.ntmps; decide) rfl ?_
  refine stp ?_; try with_reducible exact True.intro
  refine ⟨Nat, fun i => i ≤ w.length ∧ ∀ x ∈ w.take i, (-1000000 ≤ x ∧ x ≤ 1000000) → -2 ≤ x ∧ x ≤ 2, fun i => w.length - i, fun i => [(0, .il w), (1, .i 2), (7, .il w), (8, .i w.length), (9, .i i)], fun i => [], ⟨0, (fitK [] []), by simp⟩, fun i ⟨hi, hs⟩ => ?_⟩
  dsimp only at hi hs ⊢
  refine stp ?_; try with_reducible exact True.intro
  refine Br.mk (fun h1 => ?_) (fun h1 => ?_) <;> simp [-Int.ofNat_toNat] at h1
  · refine stp ?_; try with_reducible exact True.intro
    refine useT ((sizeW (rd w i)).toT) ?_; try with_reducible exact True.intro
    by_cases hb : szW (rd w i) > 2
    · refine brT (decide_eq_true hb) ?_
      refine stp ?_; try with_reducible exact True.intro
      rw [cv_bad (rd_memA h1)]
      intro hc
      rw [szW_small (by omega)] at hb
      unfold absI at hb
      omega
    · refine brF (decide_eq_false hb) ?_
      refine stp ?_; try with_reducible exact True.intro
      refine ⟨i + 1, (fitK [] []), ⟨by omega, fun x hx hr => ?_⟩, by first | ((try dsimp only); omega) | (simp; omega)⟩
      rw [take_succA h1] at hx
      rcases List.mem_append.1 hx with hx | hx
      · exact hs x hx hr
      · rw [List.mem_singleton] at hx
        subst hx
        rw [szW_small hr] at hb
        unfold absI at hb
        omega
  · have e : i = w.length := by omega
    subst e
    rw [List.take_length] at hs
    rw [cv_good hs]
    refine stp ?_; try with_reducible exact True.intro
    refine useT ((IsWordI w hw).toT) ?_; try with_reducible exact True.intro
theorem isCurve (w : List Int) (hw : (w.length : Int) ≤ 274877906944) : ConS Tryd.prog 62 [.il w] (.b (cvOk w)) := by
  refine conS_of hmix hTab Tryd.func62 rfl rfl (by kernel_rfl) (by show 1 ≤ Tryd.f62.ntmps; decide) rfl ?_
  refine stp ?_; try with_reducible exact True.intro
  refine useT ((hasLetters w hw).toT) ?_; try with_reducible exact True.intro
theorem l20Fits (w : List Int) (hw : (w.length : Int) ≤ 274877906944) : ConS Tryd.prog 54 [.il w] (.b (cvOk w)) := by
  refine conS_of hmix hTab Tryd.func54 rfl rfl (by kernel_rfl) (by show 1 ≤ Tryd.f54.ntmps; decide) rfl ?_
  refine stp ?_; try with_reducible exact True.intro
  refine ⟨Nat, fun i => i ≤ w.length ∧ ∀ x ∈ w.take i, (-1000000 ≤ x ∧ x ≤ 1000000) → -2 ≤ x ∧ x ≤ 2, fun i => w.length - i, fun i => [(0, .il w), (3, .i i)], fun i => [], ⟨0, (fitK [] []), by simp⟩, fun i ⟨hi, hs⟩ => ?_⟩
  dsimp only at hi hs ⊢
  refine stp ?_; try with_reducible exact True.intro
  refine Br.mk (fun h1 => ?_) (fun h1 => ?_) <;> simp [-Int.ofNat_toNat] at h1
  · refine stp ?_; try with_reducible exact True.intro
    refine useT ((l3AbsW (rd w i)).toT) ?_; try with_reducible exact True.intro
    by_cases hb : max (rd w i) (IntKind.wrap .i64 (-(rd w i))) > 2
    · refine brT (decide_eq_true hb) ?_
      refine stp ?_; try with_reducible exact True.intro
      rw [cv_bad (rd_memA h1)]
      intro hc
      rw [IntWalk.i64_in _ (by omega)] at hb
      omega
    · refine brF (decide_eq_false hb) ?_
      refine stp ?_; try with_reducible exact True.intro
      refine ⟨i + 1, (fitK [] []), ⟨by omega, fun x hx hr => ?_⟩, by first | ((try dsimp only); omega) | (simp; omega)⟩
      rw [take_succA h1] at hx
      rcases List.mem_append.1 hx with hx | hx
      · exact hs x hx hr
      · rw [List.mem_singleton] at hx
        subst hx
        rw [IntWalk.i64_in _ (by omega)] at hb
        omega
  · have e : i = w.length := by omega
    subst e
    rw [List.take_length] at hs
    rw [cv_good hs]
    refine stp ?_; try with_reducible exact True.intro
    refine useT ((IsWordS w hw).toT) ?_; try with_reducible exact True.intro
end Go.Proofs.YtffiddkignmobaaDoorTv
end
section
open Go Go.Proofs.YtffiddkignmobaaDoorVe Go.Proofs.YtffiddkignmobaaDoorTv Go.Proofs
namespace Go.Proofs.YtffiddkignmobaaDoorTv
set_option maxRecDepth 8000
set_option maxHeartbeats 2000000
/-- One letter more: the row and its length. -/
def red1 (p : List Int × Nat) (x : Int) : List Int × Nat := if 0 < p.2 ∧ rd p.1 ((p.2 : Int) - 1) = -x then (p.1, p.2 - 1) else (p.1.take p.2 ++ [x], p.2 + 1)
def redP (w : List Int) : Nat → List Int × Nat
  | 0 => ([], 0)
  | i + 1 => red1 (redP w i) (rd w i)
theorem redP_le (w : List Int) : ∀ i, (redP w i).2 ≤ (redP w i).1.length ∧ (redP w i).1.length ≤ i
  | 0 => ⟨Nat.le_refl _, Nat.le_refl _⟩
  | i + 1 => by
    obtain ⟨h1, h2⟩ := redP_le w i
    simp only [redP, red1]
    split
    · exact ⟨by dsimp only; omega, by dsimp only; omega⟩
    · simp; omega
theorem redP_mem {w : List Int} {Q : Int → Prop} (hw : ∀ x ∈ w, Q x) : ∀ i, i ≤ w.length → ∀ x ∈ (redP w i).1, Q x
  | 0, _, x, hx => by cases hx
  | i + 1, hi, x, hx => by
    simp only [redP, red1] at hx
    split at hx
    · exact redP_mem hw i (by omega) x hx
    · rcases List.mem_append.1 hx with hx | hx
      · exact redP_mem hw i (by omega) x (List.mem_of_mem_take hx)
      · rw [List.mem_singleton] at hx
        rw [hx]; exact hw _ (rd_memA (by omega))
theorem reduceI (w : List Int) (hw : (w.length : Int) ≤ 1000) (hs : ∀ x ∈ w, -1000 ≤ x ∧ x ≤ 1000) : ConT Tryd.prog 144 [.il w] (.own 0 0 (redP w w.length).2) [.arr (.int .i64) (redP w w.length).1 true] := by
  refine conT_of hmix hTab Tryd.func144 rfl rfl (by kernel_rfl) (by show 1 ≤ Tryd.f144.ntmps; decide) ?_
  refine stp ?_; try with_reducible exact True.intro
  refine ⟨Nat, fun i => i ≤ w.length, fun i => w.length - i, fun i => [(3, .own 0 0 (redP w i).2), (8, .il w), (9, .i w.length), (10, .i i)], fun i => [.arr (.int .i64) (redP w i).1 true], ⟨0, (fitK [] [0]), Nat.zero_le _⟩, fun i hi => ?_⟩
  dsimp only at hi ⊢
  obtain ⟨l1, l2⟩ := redP_le w i
  have hsu : redP w (i + 1) = red1 (redP w i) (rd w i) := rfl
  refine stp ?_; try with_reducible exact True.intro
  refine Br.mk (fun h1 => ?_) (fun h1 => ?_) <;> simp [-Int.ofNat_toNat] at h1
  · have hx := hs _ (rd_memA h1)
    generalize redP w i = p at *
    obtain ⟨l, n⟩ := p
    dsimp only at l1 l2 ⊢
    unfold red1 at hsu
    dsimp only at hsu
    by_cases h0 : 0 < n
    · have qe : @Eq Int (rdT (.int .i64) l ((Int.toNat ((n : Int) - 1) : Nat) : Int)) (rd l ((n : Int) - 1)) := rfl
      by_cases hc : rd l ((n : Int) - 1) = -(rd w i)
      · rw [if_pos ⟨h0, hc⟩] at hsu
        refine stp ?_; try with_reducible exact True.intro
        refine brT (decide_eq_true (by omega)) ?_
        refine stp ?_; try with_reducible exact True.intro
        refine brT (decide_eq_true (qe.trans hc)) ?_
        refine stp ?_; try with_reducible exact True.intro
        refine ⟨i + 1, ⟨.frz [], [0], ⟨?_, rfl, rfl, rfl, trivial⟩, ⟨?_, trivial⟩, by decide, rfl, rfl, rfl⟩, by first | ((try dsimp only); omega) | (simp; omega), by first | ((try dsimp only); omega) | (simp; omega)⟩
        · rw [hsu]
          show V.own 0 _ _ = V.own 0 0 _
          congr 1
          first | rfl | omega | (simp; done) | (simp; omega)
        · rw [hsu]; rfl
      · rw [if_neg (fun h => hc h.2)] at hsu
        refine stp ?_; try with_reducible exact True.intro
        refine brT (decide_eq_true (by omega)) ?_
        refine stp ?_; try with_reducible exact True.intro
        refine brF (decide_eq_false (fun h => hc (qe.symm.trans h))) ?_
        refine stp ?_; try with_reducible exact True.intro
        refine ⟨i + 1, ⟨.frz [], [2], ⟨?_, rfl, rfl, rfl, trivial⟩, ⟨?_, trivial⟩, by decide, rfl, rfl, rfl⟩, by first | ((try dsimp only); omega) | (simp; omega), by first | ((try dsimp only); omega) | (simp; omega)⟩
        · rw [hsu]
          show V.own 2 0 _ = V.own 2 0 _
          congr 1
        · rw [hsu]
          refine congrArg (fun x => some (Obj.arr (.int .i64) x true)) ?_
          simp
          try rfl
    · rw [if_neg (fun h => h0 h.1)] at hsu
      refine stp ?_; try with_reducible exact True.intro
      refine brF (decide_eq_false (by omega)) ?_
      refine stp ?_; try with_reducible exact True.intro
      refine ⟨i + 1, ⟨.frz [], [2], ⟨?_, rfl, rfl, rfl, trivial⟩, ⟨?_, trivial⟩, by decide, rfl, rfl, rfl⟩, by first | ((try dsimp only); omega) | (simp; omega), by first | ((try dsimp only); omega) | (simp; omega)⟩
      · rw [hsu]
        show V.own 2 0 _ = V.own 2 0 _
        congr 1
      · rw [hsu]
        refine congrArg (fun x => some (Obj.arr (.int .i64) x true)) ?_
        simp
        try rfl
  · have e : i = w.length := by omega
    subst e
    refine stp ?_; try with_reducible exact True.intro
    exact (fitK [] [0])
theorem reduceS (w : List Int) (hw : (w.length : Int) ≤ 1000) (hs : ∀ x ∈ w, -1000 ≤ x ∧ x ≤ 1000) : ConT Tryd.prog 218 [.il w] (.own 0 0 (redP w w.length).2) [.arr (.int .i64) (redP w w.length).1 true] := by
  refine conT_of hmix hTab Tryd.func218 rfl rfl (by kernel_rfl) (by show 1 ≤ Tryd.f218.ntmps; decide) ?_
  refine stp ?_; try with_reducible exact True.intro
  refine ⟨Nat, fun i => i ≤ w.length, fun i => w.length - i, fun i => [(0, .il w), (3, .own 0 0 (redP w i).2), (4, .i i)], fun i => [.arr (.int .i64) (redP w i).1 true], ⟨0, (fitK [] [0]), Nat.zero_le _⟩, fun i hi => ?_⟩
  dsimp only at hi ⊢
  obtain ⟨l1, l2⟩ := redP_le w i
  have hsu : redP w (i + 1) = red1 (redP w i) (rd w i) := rfl
  refine stp ?_; try with_reducible exact True.intro
  refine Br.mk (fun h1 => ?_) (fun h1 => ?_) <;> simp [-Int.ofNat_toNat] at h1
  · have hx := hs _ (rd_memA h1)
    generalize redP w i = p at *
    obtain ⟨l, n⟩ := p
    dsimp only at l1 l2 ⊢
    unfold red1 at hsu
    dsimp only at hsu
    by_cases h0 : 0 < n
    · have qe : @Eq Int (rdT (.int .i64) l ((Int.toNat ((n : Int) - 1) : Nat) : Int)) (rd l ((n : Int) - 1)) := rfl
      by_cases hc : rd l ((n : Int) - 1) = -(rd w i)
      · rw [if_pos ⟨h0, hc⟩] at hsu
        refine stp ?_; try with_reducible exact True.intro
        refine brT (decide_eq_true (by omega)) ?_
        refine stp ?_; try with_reducible exact True.intro
        refine brT (decide_eq_true (qe.trans hc)) ?_
        refine stp ?_; try with_reducible exact True.intro
        refine ⟨i + 1, ⟨.frz [], [0], ⟨rfl, ?_, rfl, trivial⟩, ⟨?_, trivial⟩, by decide, rfl, rfl, rfl⟩, by first | ((try dsimp only); omega) | (simp; omega), by first | ((try dsimp only); omega) | (simp; omega)⟩
        · rw [hsu]
          show V.own 0 _ _ = V.own 0 0 _
          congr 1
          first | rfl | omega | (simp; done) | (simp; omega)
        · rw [hsu]; rfl
      · rw [if_neg (fun h => hc h.2)] at hsu
        refine stp ?_; try with_reducible exact True.intro
        refine brT (decide_eq_true (by omega)) ?_
        refine stp ?_; try with_reducible exact True.intro
        refine brF (decide_eq_false (fun h => hc (qe.symm.trans h))) ?_
        refine stp ?_; try with_reducible exact True.intro
        refine ⟨i + 1, ⟨.frz [], [2], ⟨rfl, ?_, rfl, trivial⟩, ⟨?_, trivial⟩, by decide, rfl, rfl, rfl⟩, by first | ((try dsimp only); omega) | (simp; omega), by first | ((try dsimp only); omega) | (simp; omega)⟩
        · rw [hsu]
          show V.own 2 0 _ = V.own 2 0 _
          congr 1
        · rw [hsu]
          refine congrArg (fun x => some (Obj.arr (.int .i64) x true)) ?_
          simp
          try rfl
    · rw [if_neg (fun h => h0 h.1)] at hsu
      refine stp ?_; try with_reducible exact True.intro
      refine brF (decide_eq_false (by omega)) ?_
      refine stp ?_; try with_reducible exact True.intro
      refine ⟨i + 1, ⟨.frz [], [2], ⟨rfl, ?_, rfl, trivial⟩, ⟨?_, trivial⟩, by decide, rfl, rfl, rfl⟩, by first | ((try dsimp only); omega) | (simp; omega), by first | ((try dsimp only); omega) | (simp; omega)⟩
      · rw [hsu]
        show V.own 2 0 _ = V.own 2 0 _
        congr 1
      · rw [hsu]
        refine congrArg (fun x => some (Obj.arr (.int .i64) x true)) ?_
        simp
        try rfl
  · have e : i = w.length := by omega
    subst e
    refine stp ?_; try with_reducible exact True.intro
    exact (fitK [] [0])
/-- Inverse letters in reverse order. -/
def invP (w : List Int) (k : Nat) : List Int := ((w.drop k).map fun x => -x).reverse
theorem invP_step {w : List Int} {k : Nat} (h : k < w.length) : invP w k = invP w (k + 1) ++ [-(rd w k)] := by
  unfold invP
  rw [drop_consA h, List.map_cons, List.reverse_cons]
theorem inverseI (w : List Int) (hw : (w.length : Int) ≤ 1000) (hs : ∀ x ∈ w, -1000 ≤ x ∧ x ≤ 1000) : ConT Tryd.prog 222 [.il w] (.own 0 0 (invP w 0).length) [.arr (.int .i64) (invP w 0) true] := by
  refine conT_of hmix hTab Tryd.func222 rfl rfl (by kernel_rfl) (by show 1 ≤ Tryd.f222.ntmps; decide) ?_
  refine stp ?_; try with_reducible exact True.intro
  refine ⟨Nat, fun k => k ≤ w.length, fun k => k, fun k => [(0, .il w), (3, .own 0 0 (invP w k).length), (4, .i ((k : Int) - 1))], fun k => [.arr (.int .i64) (invP w k) true], ⟨w.length, ⟨.frz [], [0], ⟨rfl, ?_, rfl, trivial⟩, ⟨?_, trivial⟩, by decide, rfl, rfl, rfl⟩, Nat.le_refl _⟩, fun k hk => ?_⟩
  · simp [invP, EnvV.upd, V.ren]
  · simp [invP, Obj.ren, frzI]
  dsimp only at hk ⊢
  have hlen : (invP w k).length ≤ 1000 := by simp [invP]; omega
  refine stp ?_; try with_reducible exact True.intro
  cases k with
  | zero =>
    refine brF (decide_eq_false (by omega)) ?_
    refine stp ?_; try with_reducible exact True.intro
    exact (fitK [] [0])
  | succ k =>
    have hst := invP_step (w := w) (k := k) (by omega)
    have hx := hs _ (rd_memA (show k < w.length by omega))
    have qe : @Eq Int (rdT (.int .i64) w (((k + 1 : Nat) : Int) - 1)) (rd w k) := by
      rw [show ((k + 1 : Nat) : Int) - 1 = (k : Int) by omega]
    refine brT (decide_eq_true (by omega)) ?_
    refine stp ?_; try with_reducible exact True.intro
    refine ⟨k, ⟨.frz [], [2], ⟨rfl, ?_, ?_, trivial⟩, ⟨?_, trivial⟩, by decide, rfl, rfl, rfl⟩, by first | ((try dsimp only); omega) | (simp; omega), by first | ((try dsimp only); omega) | (simp; omega)⟩
    · rw [hst]
      show V.own 2 0 _ = V.own 2 0 _
      congr 1
      simp
    · show V.i _ = V.i _
      congr 1
      omega
    · rw [hst]
      refine congrArg (fun x => some (Obj.arr (.int .i64) x true)) ?_
      simp
theorem inverseS (w : List Int) (hw : (w.length : Int) ≤ 1000) (hs : ∀ x ∈ w, -1000 ≤ x ∧ x ≤ 1000) : ConT Tryd.prog 137 [.il w] (.own 0 0 (invP w 0).length) [.arr (.int .i64) (invP w 0) true] := by
  refine conT_of hmix hTab Tryd.func137 rfl rfl (by kernel_rfl) (by show 1 ≤ Tryd.f137.ntmps; decide) ?_
  refine stp ?_; try with_reducible exact True.intro
  refine ⟨Nat, fun k => k ≤ w.length, fun k => k, fun k => [(0, .il w), (3, .own 0 0 (invP w k).length), (4, .i ((k : Int) - 1))], fun k => [.arr (.int .i64) (invP w k) true], ⟨w.length, ⟨.frz [], [0], ⟨rfl, ?_, rfl, trivial⟩, ⟨?_, trivial⟩, by decide, rfl, rfl, rfl⟩, Nat.le_refl _⟩, fun k hk => ?_⟩
  · simp [invP, EnvV.upd, V.ren]
  · simp [invP, Obj.ren, frzI]
  dsimp only at hk ⊢
  have hlen : (invP w k).length ≤ 1000 := by simp [invP]; omega
  refine stp ?_; try with_reducible exact True.intro
  cases k with
  | zero =>
    refine brF (decide_eq_false (by omega)) ?_
    refine stp ?_; try with_reducible exact True.intro
    exact (fitK [] [0])
  | succ k =>
    have hst := invP_step (w := w) (k := k) (by omega)
    have hx := hs _ (rd_memA (show k < w.length by omega))
    have qe : @Eq Int (rdT (.int .i64) w (((k + 1 : Nat) : Int) - 1)) (rd w k) := by
      rw [show ((k + 1 : Nat) : Int) - 1 = (k : Int) by omega]
    refine brT (decide_eq_true (by omega)) ?_
    refine stp ?_; try with_reducible exact True.intro
    refine ⟨k, ⟨.frz [], [2], ⟨rfl, ?_, ?_, trivial⟩, ⟨?_, trivial⟩, by decide, rfl, rfl, rfl⟩, by first | ((try dsimp only); omega) | (simp; omega), by first | ((try dsimp only); omega) | (simp; omega)⟩
    · rw [hst]
      show V.own 2 0 _ = V.own 2 0 _
      congr 1
      simp
    · show V.i _ = V.i _
      congr 1
      omega
    · rw [hst]
      refine congrArg (fun x => some (Obj.arr (.int .i64) x true)) ?_
      simp
end Go.Proofs.YtffiddkignmobaaDoorTv
end
section
open Go Go.Proofs.YtffiddkignmobaaDoorVe Go.Proofs.YtffiddkignmobaaDoorTv Go.Proofs
namespace Go.Proofs.YtffiddkignmobaaDoorTv
set_option maxRecDepth 8000
set_option maxHeartbeats 2000000
/-- What becomes of the letters 1 and 2. -/
def tblM (c : Int) : Option (List (Int × List Int)) := if c = 82 then some [(1, [1, 2]), (2, [2])] else if c = 76 then some [(1, [1]), (2, [1, 2])] else if c = 114 then some [(1, [1, -2]), (2, [2])] else if c = 108 then some [(1, [1]), (2, [-1, 2])] else none
def resM : Option (List (Int × List Int)) → V
  | some _ => .tup [.mp 0, .b true]
  | none => .tup [.undef, .b false]
def obM : Option (List (Int × List Int)) → List Obj
  | some l => [.mpt (.list (.int .i64)) l]
  | none => []
def imgM (c x : Int) : List Int := if c = 82 ∧ x = 1 then [1, 2] else if c = 76 ∧ x = 2 then [1, 2] else if c = 114 ∧ x = 1 then [1, -2] else if c = 108 ∧ x = 2 then [-1, 2] else [x]
theorem img_tbl {c x : Int} {t : List (Int × List Int)} (h : tblM c = some t) (hx : x = 1 ∨ x = 2) : getL (.list (.int .i64)) t x = imgM c x := by
  unfold tblM at h
  split at h
  · rename_i e; subst e; injection h with h; subst h
    rcases hx with rfl | rfl <;> decide
  split at h
  · rename_i e; subst e; injection h with h; subst h
    rcases hx with rfl | rfl <;> decide
  split at h
  · rename_i e; subst e; injection h with h; subst h
    rcases hx with rfl | rfl <;> decide
  split at h
  · rename_i e; subst e; injection h with h; subst h
    rcases hx with rfl | rfl <;> decide
  · cases h
def turM (c : Int) : List V := if c = 82 then [.i 1, .i 1, .i 0, .i 1] else if c = 76 then [.i 1, .i 0, .i 1, .i 1] else if c = 114 then [.i 1, .i (-1), .i 0, .i 1] else if c = 108 then [.i 1, .i 0, .i (-1), .i 1] else [.i 0, .i 0, .i 0, .i 0]
end Go.Proofs.YtffiddkignmobaaDoorTv
end
section
open Go Go.Proofs.YtffiddkignmobaaDoorVe Go.Proofs.YtffiddkignmobaaDoorTv Go.Proofs
namespace Go.Proofs.YtffiddkignmobaaDoorTv
set_option maxRecDepth 8000
set_option maxHeartbeats 2000000
def Q2 (x : Int) : Prop := (-2 ≤ x ∧ x ≤ 2) ∧ x ≠ 0
def imL (c x : Int) : List Int := if 0 < x then imgM c x else invP (imgM c (-x)) 0
theorem imgM_q (c : Int) {x : Int} (hx : Q2 x) : (∀ y ∈ imgM c x, Q2 y) ∧ (imgM c x).length ≤ 2 := by
  unfold imgM
  repeat' split
  all_goals (refine ⟨fun y hy => ?_, by simp⟩; simp at hy)
  all_goals first
    | (rcases hy with rfl | rfl <;> exact ⟨by omega, by omega⟩)
    | (rw [hy]; exact hx)
theorem invP_mem {w : List Int} {y : Int} (h : y ∈ invP w 0) : -y ∈ w := by
  unfold invP at h
  simp at h
  obtain ⟨a, ha, rfl⟩ := h
  rw [Int.neg_neg]; exact ha
theorem imL_q (c : Int) {x : Int} (hx : Q2 x) : (∀ y ∈ imL c x, Q2 y) ∧ (imL c x).length ≤ 2 := by
  unfold imL
  split
  · exact imgM_q c hx
  · have hn : Q2 (-x) := by obtain ⟨h1, h2⟩ := hx; exact ⟨by omega, by omega⟩
    obtain ⟨h1, h2⟩ := imgM_q c hn
    refine ⟨fun y hy => ?_, by simpa [invP] using h2⟩
    obtain ⟨h3, h4⟩ := h1 _ (invP_mem hy)
    exact ⟨by omega, by omega⟩
def nxtM (c : Int) (p : List Int × Nat) (k : Nat) : List Int := ((p.1.take p.2).take k).flatMap (imL c)
theorem nxt_succ (c : Int) {p : List Int × Nat} {k : Nat} (h : k < p.2) (hl : p.2 ≤ p.1.length) : nxtM c p (k + 1) = nxtM c p k ++ imL c (rd p.1 k) := by
  unfold nxtM
  have e : (p.1.take p.2).take (k + 1) = (p.1.take p.2).take k ++ [rd p.1 k] := by
    rw [List.take_take, List.take_take, Nat.min_eq_left (by omega), Nat.min_eq_left (by omega), take_succA (by omega)]
  rw [e, List.flatMap_append]
  simp
theorem nxt_q (c : Int) {p : List Int × Nat} (hq : ∀ x ∈ p.1, Q2 x) : ∀ k, (∀ y ∈ nxtM c p k, Q2 y) := fun k y hy => by
  unfold nxtM at hy
  obtain ⟨x, hx, hy⟩ := List.mem_flatMap.1 hy
  exact (imL_q c (hq x (List.mem_of_mem_take (List.mem_of_mem_take hx)))).1 y hy
theorem nxt_len (c : Int) {p : List Int × Nat} (hq : ∀ x ∈ p.1, Q2 x) (hl : p.2 ≤ p.1.length) : ∀ k, k ≤ p.2 → (nxtM c p k).length ≤ 2 * k
  | 0, _ => by simp [nxtM]
  | k + 1, h => by
    rw [nxt_succ c (by omega) hl, List.length_append]
    have h1 := nxt_len c hq hl k (by omega)
    have h2 := (imL_q c (hq (rd p.1 k) (rd_memA (by omega)))).2
    omega
def stepM (c : Int) (p : List Int × Nat) : List Int × Nat := redP (nxtM c p p.2) (nxtM c p p.2).length
def mvP (s : ByteArray) (w : List Int) : Nat → Option (List Int × Nat)
  | 0 => some (redP w w.length)
  | j + 1 => match mvP s w j with
    | none => none
    | some p => match tblM (byteAt s ((s.size : Int) - 1 - j)) with
      | none => none
      | some _ => if 24 < (stepM (byteAt s ((s.size : Int) - 1 - j)) p).2 then none else some (stepM (byteAt s ((s.size : Int) - 1 - j)) p)
theorem mvP_none {s : ByteArray} {w : List Int} {i : Nat} (h : mvP s w i = none) : ∀ j, i ≤ j → mvP s w j = none
  | 0, hj => by
    obtain rfl : i = 0 := by omega
    exact h
  | j + 1, hj => by
    by_cases e : i = j + 1
    · rw [← e]; exact h
    · rw [mvP, mvP_none h j (by omega)]
theorem mvP_bad {s : ByteArray} {w : List Int} {i : Nat} (hi : i < s.size) (h : tblM (byteAt s i) = none) : mvP s w s.size = none := by
  refine mvP_none (i := s.size - 1 - i + 1) ?_ _ (by omega)
  rw [mvP]
  have e : ((s.size : Int) - 1 - ((s.size - 1 - i : Nat) : Int)) = (i : Int) := by omega
  rw [e, h]
  split <;> rfl
/-- What a state keeps to. -/
def Okp (p : List Int × Nat) : Prop := p.2 ≤ p.1.length ∧ p.1.length ≤ 48 ∧ p.2 ≤ 24 ∧ ∀ x ∈ p.1, Q2 x
theorem cv_q {w : List Int} (h : cvOk w = true) : w.length ≤ 24 ∧ ∀ x ∈ w, Q2 x := by
  unfold cvOk at h
  simp only [wordOk, Bool.and_eq_true, decide_eq_true_eq, List.all_eq_true, two, isLet] at h
  exact ⟨h.2.2, fun x hx => ⟨h.1 x hx, (h.2.1 x hx).1⟩⟩
theorem redP_ok {w : List Int} (hq : ∀ x ∈ w, Q2 x) (hl : w.length ≤ 48) (h24 : (redP w w.length).2 ≤ 24) : Okp (redP w w.length) := by
  obtain ⟨h1, h2⟩ := redP_le w w.length
  exact ⟨h1, by omega, h24, redP_mem hq _ (Nat.le_refl _)⟩
theorem mvP_ok {s : ByteArray} {w : List Int} (h : cvOk w = true) : ∀ j p, mvP s w j = some p → Okp p
  | 0, p, e => by
    injection e with e
    subst e
    obtain ⟨h1, h2⟩ := cv_q h
    have := redP_le w w.length
    exact redP_ok h2 (by omega) (by omega)
  | j + 1, p, e => by
    rw [mvP] at e
    split at e
    · cases e
    · rename_i p0 h0
      obtain ⟨a1, a2, a3, a4⟩ := mvP_ok h j p0 h0
      split at e
      · cases e
      · split at e
        · cases e
        · injection e with e
          subst e
          have h5 := nxt_len (byteAt s ((s.size : Int) - 1 - j)) a4 a1 p0.2 (Nat.le_refl _)
          exact redP_ok (nxt_q _ a4 _) (by omega) (by unfold stepM at *; omega)
def moveM (s : ByteArray) (w : List Int) : Option (List Int × Nat) := if cvOk w = true ∧ s.size ≤ 24 then mvP s w s.size else none
def resV : Option (List Int × Nat) → V
  | some p => .tup [.own 0 0 p.2, .b true]
  | none => .tup [.nil .unit, .b false]
def obV : Option (List Int × Nat) → List Obj
  | some p => [.arr (.int .i64) p.1 true]
  | none => []
end Go.Proofs.YtffiddkignmobaaDoorTv
end
section
open Go Go.Proofs.YtffiddkignmobaaDoorVe Go.Proofs.YtffiddkignmobaaDoorTv Go.Proofs
namespace Go.Proofs.YtffiddkignmobaaDoorTv
set_option maxRecDepth 8000
set_option maxHeartbeats 2000000
theorem tur_some {c : Int} {t : List (Int × List Int)} (h : tblM c = some t) : ∃ a b d e : Int, turM c = [.i a, .i b, .i d, .i e] ∧ ¬ a = 0 := by
  unfold tblM at h
  unfold turM
  split
  · exact ⟨_, _, _, _, rfl, by decide⟩
  split
  · exact ⟨_, _, _, _, rfl, by decide⟩
  split
  · exact ⟨_, _, _, _, rfl, by decide⟩
  split
  · exact ⟨_, _, _, _, rfl, by decide⟩
  · simp_all
def res0V : Option (List Int × Nat) → V
  | some p => .tup [.own 0 0 p.2, .b true]
  | none => .tup [.own 0 0 0, .b false]
def ob0V : Option (List Int × Nat) → List Obj
  | some p => [.arr (.int .i64) (p.1.take p.2) true]
  | none => [.arr (.int .i64) [] true]
end Go.Proofs.YtffiddkignmobaaDoorTv
end
section
namespace Go.Proofs.YtffiddkignmobaaDoorTv.Fg
set_option maxRecDepth 8000
set_option maxHeartbeats 2000000
/-- A letter upon a stack. -/
def psh (s : List Int) (x : Int) : List Int := match s with
  | [] => [x]
  | y :: t => if y = -x then t else x :: y :: t
def stk (w : List Int) : List Int := w.foldl psh []
def red (w : List Int) : List Int := (stk w).reverse
/-- No letter beside its inverse. -/
def Rd : List Int → Prop
  | [] => True
  | [_] => True
  | x :: y :: t => x ≠ -y ∧ Rd (y :: t)
theorem Rd.tail {x : Int} : ∀ {t : List Int}, Rd (x :: t) → Rd t
  | [], _ => trivial
  | _ :: _, h => h.2
theorem Rd.psh {s : List Int} (h : Rd s) (x : Int) : Rd (psh s x) := by
  cases s with
  | nil => trivial
  | cons y t =>
    simp only [Fg.psh]
    split
    · exact h.tail
    · rename_i hy
      exact ⟨fun e => hy (by omega), h⟩
theorem lastD (x : Int) (m : List Int) (y : Int) : (x :: (m ++ [y])).getLastD 0 = y := by
  rw [show x :: (m ++ [y]) = (x :: m) ++ [y] from rfl, List.getLastD_eq_getLast?, List.getLast?_append]; rfl
theorem psh_back {s : List Int} (h : Rd s) (x : Int) : psh (psh s x) (-x) = s := by
  cases s with
  | nil => simp [psh]
  | cons y t =>
    by_cases hy : y = -x
    · subst hy
      simp only [psh, if_pos]
      cases t with
      | nil => rfl
      | cons z t => simp only [psh, Int.neg_neg]; rw [if_neg (fun e => h.1 (by omega))]
    · simp [psh, if_neg hy]
theorem Rd.fold {s : List Int} (h : Rd s) : ∀ w : List Int, Rd (w.foldl Fg.psh s)
  | [] => h
  | x :: w => (h.psh x).fold w
theorem stk_rd (w : List Int) : Rd (stk w) := Rd.fold (s := []) trivial w
theorem stk_app (u v : List Int) : stk (u ++ v) = v.foldl psh (stk u) := by simp [stk, List.foldl_append]
theorem fold_pair {s : List Int} (h : Rd s) (x : Int) (v : List Int) : (x :: -x :: v).foldl psh s = v.foldl psh s := by
  show v.foldl psh (psh (psh s x) (-x)) = _
  rw [psh_back h]
theorem fold_pair' {s : List Int} (h : Rd s) (x : Int) (v : List Int) : (-x :: x :: v).foldl psh s = v.foldl psh s := by
  have := fold_pair h (-x) v
  rwa [Int.neg_neg] at this
/-- What a word does to a stack is told by its reduced form. -/
theorem fold_red {s : List Int} (h : Rd s) (v : List Int) : (red v).foldl psh s = v.foldl psh s := by
  have key : ∀ n (v : List Int), v.length = n → (red v).foldl psh s = v.foldl psh s := by
    intro n
    induction n with
    | zero => intro v hv; rw [List.length_eq_zero_iff.1 hv]; rfl
    | succ n ih =>
      intro v hv
      have hne : v ≠ [] := fun e => by rw [e] at hv; simp at hv
      obtain ⟨u, x, rfl⟩ : ∃ u x, v = u ++ [x] := ⟨v.dropLast, v.getLast hne, (List.dropLast_concat_getLast hne).symm⟩
      have hu := ih u (by simpa using hv)
      have e1 : stk (u ++ [x]) = psh (stk u) x := by rw [stk_app]; rfl
      have e2 : (u ++ [x]).foldl psh s = psh (u.foldl psh s) x := by rw [List.foldl_append]; rfl
      rw [e2, ← hu]
      unfold red
      rw [e1]
      cases hs : stk u with
      | nil => rfl
      | cons y t =>
        simp only [psh]
        split
        · rename_i hy
          rw [List.reverse_cons, List.foldl_append]
          show _ = psh (psh (t.reverse.foldl psh s) y) x
          have := psh_back (h.fold t.reverse) y
          rw [show x = -y by omega, this]
        · rw [List.reverse_cons, List.foldl_append]; rfl
  exact key _ v rfl
theorem stk_of_rd : ∀ {w : List Int}, Rd w.reverse → stk w = w.reverse := by
  have key : ∀ n (w : List Int), w.length = n → Rd w.reverse → stk w = w.reverse := by
    intro n
    induction n with
    | zero => intro w hw _; rw [List.length_eq_zero_iff.1 hw]; rfl
    | succ n ih =>
      intro w hw h
      have hne : w ≠ [] := fun e => by rw [e] at hw; simp at hw
      obtain ⟨u, x, rfl⟩ : ∃ u x, w = u ++ [x] := ⟨w.dropLast, w.getLast hne, (List.dropLast_concat_getLast hne).symm⟩
      rw [List.reverse_append] at h ⊢
      have hr : Rd u.reverse := h.tail
      have := ih u (by simpa using hw) hr
      rw [stk_app, this]
      show psh u.reverse x = x :: u.reverse
      cases hu : u.reverse with
      | nil => rfl
      | cons y t =>
        rw [hu] at h
        simp only [psh]
        rw [if_neg (fun e => h.1 (by omega))]
  exact fun {w} h => key _ w rfl h
/-- Reduced from the left as well as from the right. -/
def Rw (w : List Int) : Prop := ∀ u x v, w ≠ u ++ x :: -x :: v
theorem Rd_iff : ∀ {w : List Int}, Rd w ↔ Rw w := by
  intro w
  induction w with
  | nil => exact ⟨fun _ u x v h => by simp at h, fun _ => trivial⟩
  | cons y t ih =>
    cases t with
    | nil => exact ⟨fun _ u x v h => by cases u with
        | nil => simp at h
        | cons a u => simp at h, fun _ => trivial⟩
    | cons z t =>
      refine ⟨fun h u x v e => ?_, fun h => ⟨fun e => h [] y t (by simp [e]), ih.2 fun u x v e => h (y :: u) x v (by rw [e]; rfl)⟩⟩
      cases u with
      | nil =>
        simp only [List.nil_append, List.cons.injEq] at e
        exact h.1 (by omega)
      | cons a u =>
        simp only [List.cons_append, List.cons.injEq] at e
        exact (ih.1 h.2) u x v e.2
theorem Rw.rev {w : List Int} (h : Rw w) : Rw w.reverse := fun u x v e => by
  have := congrArg List.reverse e
  rw [List.reverse_reverse] at this
  refine h v.reverse (-x) u.reverse ?_
  rw [this]; simp
theorem red_rw (w : List Int) : Rw (red w) := (Rd_iff.1 (stk_rd w)).rev
theorem red_id {w : List Int} (h : Rw w) : red w = w := by
  unfold red
  rw [stk_of_rd (Rd_iff.2 h.rev), List.reverse_reverse]
theorem red_app (u v : List Int) : red (u ++ v) = red (red u ++ red v) := by
  unfold red
  rw [stk_app, stk_app, show (stk v).reverse = red v from rfl, fold_red (stk_rd _), show (stk u).reverse = red u from rfl]
  have : stk (red u) = stk u := fold_red (s := []) trivial u
  rw [this]
theorem red_red (u : List Int) : red (red u) = red u := red_id (red_rw u)
theorem red_app_l (u v : List Int) : red (red u ++ v) = red (u ++ v) := by rw [red_app, red_red, ← red_app]
theorem red_app_r (u v : List Int) : red (u ++ red v) = red (u ++ v) := by rw [red_app, red_red, ← red_app]
theorem red_pair (u v : List Int) (x : Int) : red (u ++ x :: -x :: v) = red (u ++ v) := by
  unfold red
  rw [stk_app, stk_app, fold_pair (stk_rd u)]
theorem red_pair' (u v : List Int) (x : Int) : red (u ++ -x :: x :: v) = red (u ++ v) := by
  have := red_pair u v (-x)
  rwa [Int.neg_neg] at this
/-- Inverse ends taken away. -/
def strip : Nat → List Int → List Int
  | 0, w => w
  | n + 1, w => if 2 ≤ w.length ∧ w.headD 0 = -(w.getLastD 0) then strip n (w.drop 1).dropLast else w
theorem strip_ends (n : Nat) (x : Int) (m : List Int) : strip (n + 1) (x :: (m ++ [-x])) = strip n m := by
  rw [strip, if_pos ⟨by simp, by rw [lastD]; simp⟩]
  simp
theorem strip_keep (n : Nat) {w : List Int} (h : w.headD 0 ≠ -(w.getLastD 0)) : strip n w = w := by
  cases n with
  | zero => rfl
  | succ n => rw [strip, if_neg fun k => h k.2]
theorem strip_one (n : Nat) (x : Int) : strip n [x] = [x] := by
  cases n with
  | zero => rfl
  | succ n => rw [strip, if_neg (by simp)]
theorem strip_nil (n : Nat) : strip n [] = [] := by
  cases n with
  | zero => rfl
  | succ n => rw [strip, if_neg (by simp)]
theorem ends {w : List Int} (h : 2 ≤ w.length ∧ w.headD 0 = -(w.getLastD 0)) : ∃ x m, w = x :: (m ++ [-x]) := by
  obtain ⟨h1, h2⟩ := h
  cases w with
  | nil => simp at h1
  | cons x t =>
    have hne : t ≠ [] := fun e => by rw [e] at h1; simp at h1
    refine ⟨x, t.dropLast, ?_⟩
    have e1 : (x :: t).getLastD 0 = t.getLast hne := by simp [List.getLastD, List.getLast_cons hne]
    rw [e1] at h2
    simp only [List.headD_cons] at h2
    rw [show -x = t.getLast hne by omega, List.dropLast_concat_getLast]
theorem strip_more : ∀ (n : Nat) (w : List Int), w.length ≤ 2 * n → strip (n + 1) w = strip n w
  | 0, w, h => by rw [List.length_eq_zero_iff.1 (by omega : w.length = 0)]; rfl
  | n + 1, w, h => by
    by_cases hc : 2 ≤ w.length ∧ w.headD 0 = -(w.getLastD 0)
    · obtain ⟨x, m, rfl⟩ := ends hc
      rw [strip_ends, strip_ends]
      exact strip_more n m (by simp at h; omega)
    · rw [strip, if_neg hc, strip, if_neg hc]
theorem strip_len {n m : Nat} {w : List Int} (h : w.length ≤ 2 * n) (hm : n ≤ m) : strip m w = strip n w := by
  induction m with
  | zero => rw [show n = 0 by omega]
  | succ m ih =>
    by_cases e : n = m + 1
    · rw [e]
    · rw [strip_more m w (by omega), ih (by omega)]
def core (w : List Int) : List Int := strip (red w).length (red w)
theorem core_eq {w : List Int} {n : Nat} (h : (red w).length ≤ 2 * n) : core w = strip n (red w) := by
  unfold core
  rcases Nat.le_total (red w).length n with hn | hn
  · rw [strip_len (m := n) (n := (red w).length) (by omega) hn]
  · rw [strip_len (m := (red w).length) (n := n) h hn]
theorem core_red {u v : List Int} (h : red u = red v) : core u = core v := by unfold core; rw [h]
theorem core_ends {x : Int} {m : List Int} (h : Rw (x :: (m ++ [-x]))) : core (x :: (m ++ [-x])) = core m := by
  have hm : Rw m := fun u y v e => h (x :: u) y (v ++ [-x]) (by rw [e]; simp)
  rw [core_eq (n := m.length + 1) (by rw [red_id h]; simp; omega), red_id h, strip_ends, core_eq (n := m.length) (by rw [red_id hm]; omega), red_id hm]
theorem core_keep {w : List Int} (h : Rw w) (h2 : w.headD 0 ≠ -(w.getLastD 0)) : core w = w := by
  unfold core
  rw [red_id h, strip_keep _ h2]
/-- The same around. -/
def Rot (a b : List Int) : Prop := ∃ p q, a = p ++ q ∧ b = q ++ p
theorem Rot.refl (a : List Int) : Rot a a := ⟨a, [], by simp, by simp⟩
theorem Rot.symm {a b : List Int} (h : Rot a b) : Rot b a := let ⟨p, q, h1, h2⟩ := h; ⟨q, p, h2, h1⟩
theorem Rot.trans {a b c : List Int} (h : Rot a b) (k : Rot b c) : Rot a c := by
  obtain ⟨p, q, rfl, rfl⟩ := h
  obtain ⟨r, s, e, rfl⟩ := k
  rcases List.append_eq_append_iff.1 e with ⟨t, rfl, rfl⟩ | ⟨t, rfl, rfl⟩
  · exact ⟨t, s ++ q, by simp, by simp⟩
  · exact ⟨p ++ r, t, by simp, by simp⟩
theorem Rot.len {a b : List Int} (h : Rot a b) : a.length = b.length := by obtain ⟨p, q, rfl, rfl⟩ := h; simp; omega
def CE (u v : List Int) : Prop := Rot (core u) (core v)
theorem CE.refl (u : List Int) : CE u u := Rot.refl _
theorem CE.symm {u v : List Int} (h : CE u v) : CE v u := Rot.symm h
theorem CE.trans {u v w : List Int} (h : CE u v) (k : CE v w) : CE u w := Rot.trans h k
theorem CE.of_red {u v : List Int} (h : red u = red v) : CE u v := by unfold CE; rw [core_red h]; exact Rot.refl _
theorem ce_one_rd : ∀ (n : Nat) (r : List Int) (x : Int), r.length ≤ n → Rw r → CE (x :: r) (r ++ [x]) := by
  intro n
  induction n with
  | zero => intro r x h _; rw [List.length_eq_zero_iff.1 (by omega : r.length = 0)]; exact CE.refl _
  | succ n ih =>
    intro r x h hr
    cases r with
    | nil => exact CE.refl _
    | cons y t =>
      have ht : Rw t := fun u z v e => hr (y :: u) z v (by rw [e]; rfl)
      by_cases hy : y = -x
      · subst hy
        have e1 : red (x :: -x :: t) = red t := red_pair [] t x
        by_cases hn : t = []
        · subst hn
          exact CE.of_red (by rw [e1]; exact (red_pair' [] [] x).symm)
        · obtain ⟨m, z, rfl⟩ : ∃ m z, t = m ++ [z] := ⟨t.dropLast, t.getLast hn, (List.dropLast_concat_getLast hn).symm⟩
          by_cases hz : z = -x
          · subst hz
            have e2 : red (-x :: (m ++ [-x]) ++ [x]) = red (-x :: m) := by
              have := red_pair' (-x :: m) [] x
              simpa using this
            refine (CE.of_red e1).trans (CE.trans ?_ (CE.of_red e2.symm))
            exact (ih m (-x) (by simp at h; omega) (fun u z v e => ht u z (v ++ [-x]) (by rw [e]; simp))).symm
          · have hw : Rw (-x :: (m ++ [z] ++ [- -x])) := by
              intro u a v e
              rcases List.append_eq_append_iff.1 (show (-x :: (m ++ [z])) ++ [- -x] = u ++ a :: -a :: v by simpa using e) with ⟨c, e3, e4⟩ | ⟨c, e3, e4⟩
              · rcases c with _ | ⟨c0, c⟩
                · simp at e4
                · simp only [List.cons_append, List.cons.injEq] at e4
                  have := congrArg List.length e4.2
                  simp at this
              · rcases c with _ | ⟨c0, c⟩
                · simp at e4
                · simp only [List.cons_append, List.cons.injEq] at e4
                  rcases c with _ | ⟨c1, c⟩
                  · simp only [List.nil_append, List.cons.injEq] at e4
                    have h5 : (-x :: m) ++ [z] = u ++ [c0] := by simpa using e3
                    have := List.append_inj_right' h5 rfl
                    simp at this
                    omega
                  · simp only [List.cons_append, List.cons.injEq] at e4
                    refine hr u a c (by rw [show -x :: (m ++ [z]) = u ++ c0 :: c1 :: c from e3, ← e4.2.1, e4.1])
            have e5 := core_ends hw
            rw [Int.neg_neg] at e5
            unfold CE
            rw [core_red e1, show (-x :: (m ++ [z])) ++ [x] = -x :: (m ++ [z] ++ [x]) by simp, e5]
            exact Rot.refl _
      · have hw1 : Rw (x :: y :: t) := Rd_iff.1 ⟨fun e => hy (by omega), Rd_iff.2 hr⟩
        obtain ⟨m, z, hm⟩ : ∃ m z, y :: t = m ++ [z] := ⟨(y :: t).dropLast, (y :: t).getLast (by simp), (List.dropLast_concat_getLast (by simp)).symm⟩
        by_cases hz : z = -x
        · subst hz
          rw [hm] at hw1 ⊢
          unfold CE
          rw [core_ends hw1, core_red (show red (m ++ [-x] ++ [x]) = red m by have := red_pair' m [] x; simpa using this)]
          exact Rot.refl _
        · have hw2 : Rw (y :: t ++ [x]) := by
            have : Rd (x :: (y :: t).reverse) := by
              rw [hm]
              simp only [List.reverse_append, List.reverse_cons, List.reverse_nil, List.nil_append, List.singleton_append]
              refine ⟨fun e => hz (by omega), ?_⟩
              have := Rd_iff.2 hr.rev
              rw [hm] at this
              simpa using this
            have := (Rd_iff.1 this).rev
            simpa using this
          have k1 : core (x :: y :: t) = x :: y :: t := core_keep hw1 (by rw [hm, lastD]; simp; omega)
          have k2 : core (y :: t ++ [x]) = y :: t ++ [x] := core_keep hw2 (by
            rw [show ((y :: t ++ [x]).getLastD 0) = x from lastD y t x]; simp; omega)
          unfold CE
          rw [k1, k2]
          exact ⟨[x], y :: t, rfl, rfl⟩
theorem ce_one (r : List Int) (x : Int) : CE (x :: r) (r ++ [x]) := by
  have e1 : red (x :: red r) = red (x :: r) := red_app_r [x] r
  have e2 : red (red r ++ [x]) = red (r ++ [x]) := red_app_l r [x]
  exact (CE.of_red e1.symm).trans ((ce_one_rd _ (red r) x (Nat.le_refl _) (red_rw r)).trans (CE.of_red e2))
theorem ce_rot : ∀ (p q : List Int), CE (p ++ q) (q ++ p)
  | [], q => by simpa using CE.refl q
  | x :: p, q => by
    have h1 := ce_one (p ++ q) x
    have h2 := ce_rot p (q ++ [x])
    rw [show p ++ q ++ [x] = p ++ (q ++ [x]) by simp] at h1
    rw [show q ++ [x] ++ p = q ++ x :: p by simp] at h2
    exact h1.trans h2
theorem CE.of_rot {a b : List Int} (h : Rot a b) : CE a b := by obtain ⟨p, q, rfl, rfl⟩ := h; exact ce_rot p q
/-- A map of words that takes what cancels to what cancels. -/
structure Hm (f : List Int → List Int) : Prop where
  cancel : ∀ u x v, red (f (u ++ x :: -x :: v)) = red (f (u ++ v))
  rot : ∀ p q, CE (f (p ++ q)) (f (q ++ p))
theorem Hm.red {f : List Int → List Int} (h : Hm f) : ∀ (w v : List Int), Fg.red (f (w ++ v)) = Fg.red (f (Fg.red w ++ v)) := by
  have key : ∀ n (w v : List Int), w.length = n → Fg.red (f (w ++ v)) = Fg.red (f (Fg.red w ++ v)) := by
    intro n
    induction n with
    | zero => intro w v hw; rw [List.length_eq_zero_iff.1 hw]; rfl
    | succ n ih =>
      intro w v hw
      have hne : w ≠ [] := fun e => by rw [e] at hw; simp at hw
      obtain ⟨u, x, rfl⟩ : ∃ u x, w = u ++ [x] := ⟨w.dropLast, w.getLast hne, (List.dropLast_concat_getLast hne).symm⟩
      have hu := ih u ([x] ++ v) (by simpa using hw)
      rw [show u ++ [x] ++ v = u ++ ([x] ++ v) by simp, hu]
      have e1 : stk (u ++ [x]) = psh (stk u) x := by rw [stk_app]; rfl
      unfold Fg.red
      rw [e1]
      cases hs : stk u with
      | nil => rfl
      | cons y t =>
        simp only [psh]
        split
        · rename_i hy
          have := h.cancel t.reverse y v
          rw [show -y = x by omega] at this
          unfold Fg.red at this
          simpa using this
        · simp
  exact fun w v => key _ w v rfl
theorem Hm.strip {f : List Int → List Int} (h : Hm f) : ∀ (n : Nat) (w : List Int), CE (f w) (f (Fg.strip n w))
  | 0, w => CE.refl _
  | n + 1, w => by
    by_cases hc : 2 ≤ w.length ∧ w.headD 0 = -(w.getLastD 0)
    · obtain ⟨x, m, rfl⟩ := ends hc
      rw [strip_ends]
      have h1 := h.rot [x] (m ++ [-x])
      have h2 := h.cancel m (-x) []
      rw [Int.neg_neg] at h2
      rw [List.append_nil] at h2
      have h3 : CE (f (m ++ [-x] ++ [x])) (f m) := CE.of_red (by simpa using h2)
      exact (h1.trans h3).trans (h.strip n m)
    · rw [Fg.strip, if_neg hc]; exact CE.refl _
theorem Hm.core {f : List Int → List Int} (h : Hm f) (w : List Int) : CE (f w) (f (Fg.core w)) := by
  have h1 := h.red w []
  rw [List.append_nil, List.append_nil] at h1
  exact (CE.of_red h1).trans (h.strip _ _)
theorem Hm.ce {f : List Int → List Int} (h : Hm f) {u v : List Int} (k : CE u v) : CE (f u) (f v) := by
  obtain ⟨p, q, h1, h2⟩ := k
  refine (h.core u).trans (CE.trans ?_ (h.core v).symm)
  rw [h1, h2]
  exact h.rot p q
/-- Inverse words. -/
def inv (w : List Int) : List Int := (w.map fun x => -x).reverse
theorem inv_app (u v : List Int) : inv (u ++ v) = inv v ++ inv u := by simp [inv]
theorem inv_inv (u : List Int) : inv (inv u) = u := by
  unfold inv
  rw [List.map_reverse, List.reverse_reverse, List.map_map]
  conv => rhs; rw [← List.map_id u]
  exact List.map_congr_left fun x _ => by simp
theorem hm_inv : Hm inv := ⟨fun u x v => by
    have := red_pair (inv v) (inv u) x
    rw [inv_app, inv_app]
    rw [show inv (x :: -x :: v) = inv v ++ [x, -x] by simp [inv]]
    simpa using this,
  fun p q => by rw [inv_app, inv_app]; exact ce_rot _ _⟩
theorem red_invs (u v w : List Int) : red (u ++ (w ++ inv w ++ v)) = red (u ++ v) := by
  induction w generalizing u v with
  | nil => rfl
  | cons x w ih =>
    have e : u ++ (x :: w ++ inv (x :: w) ++ v) = (u ++ [x]) ++ (w ++ inv w ++ (-x :: v)) := by simp [inv]
    rw [e, ih]
    have := red_pair u v x
    simpa using this
/-- Letters replaced by words, inverse ones by the inverse words. -/
theorem hm_sub {g : Int → List Int} (hg : ∀ x, g (-x) = inv (g x)) : Hm (fun w => w.flatMap g) := ⟨fun u x v => by
    simp only [List.flatMap_append, List.flatMap_cons]
    rw [hg x]
    have := red_invs (u.flatMap g) (v.flatMap g) (g x)
    simpa using this,
  fun p q => by simp only [List.flatMap_append]; exact ce_rot _ _⟩
theorem sub_inv {g : Int → List Int} (hg : ∀ x, g (-x) = inv (g x)) : ∀ w : List Int, (inv w).flatMap g = inv (w.flatMap g)
  | [] => rfl
  | x :: w => by
    have := sub_inv hg w
    rw [show inv (x :: w) = inv w ++ [-x] by simp [inv], List.flatMap_append, this, show (x :: w).flatMap g = g x ++ w.flatMap g by simp, inv_app]
    simp [hg]
end Go.Proofs.YtffiddkignmobaaDoorTv.Fg
end
