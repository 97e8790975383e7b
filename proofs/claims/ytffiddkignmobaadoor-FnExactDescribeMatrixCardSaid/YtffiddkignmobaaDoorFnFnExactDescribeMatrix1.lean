/- What functions of the program give: each contract holds for all arguments that its own sentence names. -/
import Derived.Test.YtffiddkignmobaaDoorTv5
import Derived.Test.YtffiddkignmobaaDoorProg
import Derived.Shelf.Strings.OnBuilder
import Derived.Shelf.LaysM
import Derived.Shelf.Strconv.Itoa3
import Derived.Lib.ItoaLen
set_option linter.unusedVariables false
set_option linter.unusedSimpArgs false
section
open Go Go.Proofs.YtffiddkignmobaaDoorVe Go.Proofs.YtffiddkignmobaaDoorTv Go.Proofs
namespace Go.Proofs.YtffiddkignmobaaDoorTv
set_option maxRecDepth 8000
set_option maxHeartbeats 2000000
def tab : List (Nat × TE) := [(1, ⟨.fnil, .other, 8⟩), (3, ⟨.int .i64, .int .i64, 8⟩), (4, ⟨.bool, .bool, 1⟩), (5, ⟨.int .u8, .int .u8, 1⟩), (9, ⟨.str, .str, 16⟩), (23, ⟨.pair (.int .i64) (.pair (.int .i64) (.pair (.int .i64) (.pair (.int .i64) (.unit)))), .st [(0, 1), (1, 1), (2, 1), (3, 1)], 32⟩), (24, ⟨.fnil, .other, 8⟩), (25, ⟨.pair (.int .i64) (.pair (.int .i64) (.pair (.int .i64) (.pair (.int .i64) (.unit)))), .st [(0, 1), (1, 1), (2, 1), (3, 1)], 32⟩), (26, ⟨.fnil, .other, 8⟩), (27, ⟨.fnil, .other, 8⟩), (28, ⟨.list (.int .i64), .sl 3, 24⟩), (29, ⟨.fnil, .other, 8⟩), (30, ⟨.fnil, .other, 8⟩), (31, ⟨.fnil, .other, 8⟩), (32, ⟨.fnil, .other, 8⟩), (33, ⟨.list (.list (.int .i64)), .sl 28, 24⟩), (34, ⟨.fnil, .other, 8⟩), (35, ⟨.fnil, .other, 8⟩), (36, ⟨.fnil, .other, 8⟩), (37, ⟨.fnil, .other, 8⟩), (38, ⟨.fnil, .other, 8⟩), (39, ⟨.fnil, .other, 8⟩), (40, ⟨.fnil, .other, 8⟩), (41, ⟨.fnil, .other, 8⟩), (42, ⟨.fnil, .other, 8⟩), (43, ⟨.fnil, .other, 8⟩), (44, ⟨.list (.pair (.int .i64) (.pair (.int .i64) (.unit))), .sl 48, 24⟩), (45, ⟨.fnil, .other, 8⟩), (46, ⟨.fnil, .other, 8⟩), (48, ⟨.pair (.int .i64) (.pair (.int .i64) (.unit)), .st [(0, 1), (1, 1)], 16⟩), (49, ⟨.fnil, .other, 8⟩), (50, ⟨.fnil, .other, 8⟩), (51, ⟨.fnil, .other, 8⟩), (52, ⟨.list (.str), .sl 9, 24⟩), (53, ⟨.fnil, .other, 8⟩), (54, ⟨.fnil, .other, 8⟩), (56, ⟨.fnil, .other, 8⟩), (57, ⟨.fnil, .other, 8⟩), (58, ⟨.fnil, .other, 8⟩), (59, ⟨.list (.pair (.int .i64) (.pair (.int .i64) (.pair (.int .i64) (.unit)))), .sl 64, 24⟩), (61, ⟨.fnil, .other, 8⟩), (62, ⟨.fnil, .other, 8⟩), (64, ⟨.pair (.int .i64) (.pair (.int .i64) (.pair (.int .i64) (.unit))), .st [(0, 1), (1, 1), (2, 1)], 24⟩), (65, ⟨.fnil, .other, 8⟩), (67, ⟨.fnil, .other, 8⟩), (69, ⟨.fnil, .other, 8⟩), (70, ⟨.fnil, .other, 8⟩), (71, ⟨.fnil, .other, 8⟩), (73, ⟨.fnil, .other, 8⟩), (75, ⟨.fnil, .other, 8⟩), (76, ⟨.fnil, .other, 8⟩), (77, ⟨.list (.int .u8), .sl 5, 24⟩), (78, ⟨.fnil, .other, 8⟩), (79, ⟨.fnil, .other, 8⟩), (80, ⟨.fnil, .other, 8⟩), (82, ⟨.fnil, .other, 8⟩), (83, ⟨.fnil, .other, 8⟩), (85, ⟨.fnil, .other, 8⟩), (86, ⟨.fnil, .other, 8⟩), (87, ⟨.fnil, .other, 8⟩), (88, ⟨.fnil, .other, 8⟩), (89, ⟨.fnil, .other, 8⟩), (90, ⟨.fnil, .other, 8⟩), (91, ⟨.fnil, .other, 8⟩), (92, ⟨.fnil, .other, 8⟩), (93, ⟨.fnil, .other, 8⟩), (94, ⟨.fnil, .other, 8⟩), (95, ⟨.fnil, .other, 8⟩), (96, ⟨.fnil, .other, 8⟩), (97, ⟨.fnil, .other, 8⟩), (98, ⟨.fnil, .other, 8⟩), (99, ⟨.fnil, .other, 8⟩), (100, ⟨.fnil, .other, 8⟩), (102, ⟨.fnil, .other, 8⟩), (103, ⟨.fnil, .other, 8⟩), (104, ⟨.fnil, .other, 8⟩), (106, ⟨.fnil, .other, 8⟩), (107, ⟨.fnil, .other, 8⟩), (108, ⟨.fnil, .other, 8⟩), (109, ⟨.fnil, .other, 8⟩), (110, ⟨.fnil, .other, 8⟩), (111, ⟨.pair (.list (.int .i64)) (.unit), .st [(0, 1)], 24⟩), (112, ⟨.pair (.list (.int .i64)) (.unit), .st [(0, 1)], 24⟩), (113, ⟨.fnil, .other, 8⟩), (114, ⟨.int .u64, .int .u64, 8⟩), (115, ⟨.fnil, .other, 8⟩), (116, ⟨.pair (.int .i64) (.pair (.int .i64) (.unit)), .arr 2 3, 16⟩), (117, ⟨.pair (.pair (.int .i64) (.pair (.int .i64) (.unit))) (.pair (.pair (.int .i64) (.pair (.int .i64) (.unit))) (.pair (.pair (.int .i64) (.pair (.int .i64) (.unit))) (.pair (.pair (.int .i64) (.pair (.int .i64) (.unit))) (.pair (.pair (.int .i64) (.pair (.int .i64) (.unit))) (.pair (.pair (.int .i64) (.pair (.int .i64) (.unit))) (.pair (.pair (.int .i64) (.pair (.int .i64) (.unit))) (.pair (.pair (.int .i64) (.pair (.int .i64) (.unit))) (.pair (.pair (.int .i64) (.pair (.int .i64) (.unit))) (.unit))))))))), .arr 9 116, 144⟩), (119, ⟨.fnil, .other, 8⟩), (120, ⟨.fnil, .other, 8⟩), (121, ⟨.fnil, .other, 8⟩), (125, ⟨.fnil, .other, 8⟩), (129, ⟨.fnil, .other, 8⟩), (130, ⟨.fnil, .other, 8⟩), (131, ⟨.list (.bool), .sl 4, 24⟩), (132, ⟨.fnil, .other, 8⟩), (133, ⟨.fnil, .other, 8⟩), (134, ⟨.fnil, .other, 8⟩), (135, ⟨.fnil, .other, 8⟩), (136, ⟨.fnil, .other, 8⟩), (137, ⟨.fnil, .other, 8⟩), (139, ⟨.fnil, .other, 8⟩), (141, ⟨.fnil, .other, 8⟩), (143, ⟨.fnil, .other, 8⟩), (144, ⟨.fnil, .other, 8⟩), (147, ⟨.fnil, .other, 8⟩), (148, ⟨.fnil, .other, 8⟩), (150, ⟨.fnil, .other, 8⟩), (154, ⟨.fnil, .other, 8⟩), (155, ⟨.fnil, .other, 8⟩), (165, ⟨.fnil, .other, 8⟩)]
theorem hmix : Tryd.prog.follows .mixedOrders = true := by kernel_rfl
theorem hTab : TabOk Tryd.prog tab := fun t e h => by
  refine tabAll_ok (l := tab) ?_ t e h
  refine ⟨⟨by kernel_rfl, trivial⟩, ⟨by kernel_rfl, rfl⟩, ⟨by kernel_rfl, trivial⟩, ⟨by kernel_rfl, rfl⟩, ⟨by kernel_rfl, trivial⟩, ⟨by kernel_rfl, trivial⟩, ⟨by kernel_rfl, trivial⟩, ⟨by kernel_rfl, trivial⟩, ⟨by kernel_rfl, trivial⟩, ⟨by kernel_rfl, trivial⟩, ⟨by kernel_rfl, _, rfl, rfl, by decide, by decide, by decide⟩, ⟨by kernel_rfl, trivial⟩, ⟨by kernel_rfl, trivial⟩, ⟨by kernel_rfl, trivial⟩, ⟨by kernel_rfl, trivial⟩, ⟨by kernel_rfl, _, rfl, rfl, by decide, by decide, by decide⟩, ⟨by kernel_rfl, trivial⟩, ⟨by kernel_rfl, trivial⟩, ⟨by kernel_rfl, trivial⟩, ⟨by kernel_rfl, trivial⟩, ⟨by kernel_rfl, trivial⟩, ⟨by kernel_rfl, trivial⟩, ⟨by kernel_rfl, trivial⟩, ⟨by kernel_rfl, trivial⟩, ⟨by kernel_rfl, trivial⟩, ⟨by kernel_rfl, trivial⟩, ⟨by kernel_rfl, _, rfl, rfl, by decide, by decide, by decide⟩, ⟨by kernel_rfl, trivial⟩, ⟨by kernel_rfl, trivial⟩, ⟨by kernel_rfl, trivial⟩, ⟨by kernel_rfl, trivial⟩, ⟨by kernel_rfl, trivial⟩, ⟨by kernel_rfl, trivial⟩, ⟨by kernel_rfl, _, rfl, rfl, by decide, by decide, by decide⟩, ⟨by kernel_rfl, trivial⟩, ⟨by kernel_rfl, trivial⟩, ⟨by kernel_rfl, trivial⟩, ⟨by kernel_rfl, trivial⟩, ⟨by kernel_rfl, trivial⟩, ⟨by kernel_rfl, _, rfl, rfl, by decide, by decide, by decide⟩, ⟨by kernel_rfl, trivial⟩, ⟨by kernel_rfl, trivial⟩, ⟨by kernel_rfl, trivial⟩, ⟨by kernel_rfl, trivial⟩, ⟨by kernel_rfl, trivial⟩, ⟨by kernel_rfl, trivial⟩, ⟨by kernel_rfl, trivial⟩, ⟨by kernel_rfl, trivial⟩, ⟨by kernel_rfl, trivial⟩, ⟨by kernel_rfl, trivial⟩, ⟨by kernel_rfl, trivial⟩, ⟨by kernel_rfl, _, rfl, rfl, by decide, by decide, by decide⟩, ⟨by kernel_rfl, trivial⟩, ⟨by kernel_rfl, trivial⟩, ⟨by kernel_rfl, trivial⟩, ⟨by kernel_rfl, trivial⟩, ⟨by kernel_rfl, trivial⟩, ⟨by kernel_rfl, trivial⟩, ⟨by kernel_rfl, trivial⟩, ⟨by kernel_rfl, trivial⟩, ⟨by kernel_rfl, trivial⟩, ⟨by kernel_rfl, trivial⟩, ⟨by kernel_rfl, trivial⟩, ⟨by kernel_rfl, trivial⟩, ⟨by kernel_rfl, trivial⟩, ⟨by kernel_rfl, trivial⟩, ⟨by kernel_rfl, trivial⟩, ⟨by kernel_rfl, trivial⟩, ⟨by kernel_rfl, trivial⟩, ⟨by kernel_rfl, trivial⟩, ⟨by kernel_rfl, trivial⟩, ⟨by kernel_rfl, trivial⟩, ⟨by kernel_rfl, trivial⟩, ⟨by kernel_rfl, trivial⟩, ⟨by kernel_rfl, trivial⟩, ⟨by kernel_rfl, trivial⟩, ⟨by kernel_rfl, trivial⟩, ⟨by kernel_rfl, trivial⟩, ⟨by kernel_rfl, trivial⟩, ⟨by kernel_rfl, trivial⟩, ⟨by kernel_rfl, trivial⟩, ⟨by kernel_rfl, trivial⟩, ⟨by kernel_rfl, trivial⟩, ⟨by kernel_rfl, trivial⟩, ⟨by kernel_rfl, rfl⟩, ⟨by kernel_rfl, trivial⟩, ⟨by kernel_rfl, trivial⟩, ⟨by kernel_rfl, trivial⟩, ⟨by kernel_rfl, trivial⟩, ⟨by kernel_rfl, trivial⟩, ⟨by kernel_rfl, trivial⟩, ⟨by kernel_rfl, trivial⟩, ⟨by kernel_rfl, trivial⟩, ⟨by kernel_rfl, trivial⟩, ⟨by kernel_rfl, _, rfl, rfl, by decide, by decide, by decide⟩, ⟨by kernel_rfl, trivial⟩, ⟨by kernel_rfl, trivial⟩, ⟨by kernel_rfl, trivial⟩, ⟨by kernel_rfl, trivial⟩, ⟨by kernel_rfl, trivial⟩, ⟨by kernel_rfl, trivial⟩, ⟨by kernel_rfl, trivial⟩, ⟨by kernel_rfl, trivial⟩, ⟨by kernel_rfl, trivial⟩, ⟨by kernel_rfl, trivial⟩, ⟨by kernel_rfl, trivial⟩, ⟨by kernel_rfl, trivial⟩, ⟨by kernel_rfl, trivial⟩, ⟨by kernel_rfl, trivial⟩, ⟨by kernel_rfl, trivial⟩, ⟨by kernel_rfl, trivial⟩, trivial⟩
theorem l1In (a lo hi : Int) : ConS Tryd.prog 105 [.i a, .i lo, .i hi] (.b (decide (lo ≤ a ∧ a ≤ hi))) := by
  refine conS_of hmix hTab Tryd.func105 rfl rfl (by kernel_rfl) (by show 3 ≤ Tryd.f105.ntmps; decide) rfl ?_
  refine stp ?_; try with_reducible exact True.intro
  refine Br.mk (fun h => ?_) (fun h => ?_)
  all_goals refine stp ?_; try with_reducible exact True.intro
  all_goals (simp at h; simp [h])
  omega
theorem within (a lo hi : Int) : ConS Tryd.prog 113 [.i a, .i lo, .i hi] (.b (decide (lo ≤ a ∧ a ≤ hi))) := by
  refine conS_of hmix hTab Tryd.func113 rfl rfl (by kernel_rfl) (by show 3 ≤ Tryd.f113.ntmps; decide) rfl ?_
  refine stp ?_; try with_reducible exact True.intro
  refine Br.mk (fun h => ?_) (fun h => ?_)
  all_goals refine stp ?_; try with_reducible exact True.intro
  all_goals (simp at h; simp [h])
  omega
theorem l1Bit (b : Bool) : ConS Tryd.prog 152 [.b b] (.i (if b = true then 1 else 0)) := by
  refine conS_of hmix hTab Tryd.func152 rfl rfl (by kernel_rfl) (by show 1 ≤ Tryd.f152.ntmps; decide) rfl ?_
  refine stp ?_; try with_reducible exact True.intro
  refine Br.mk (fun h => ?_) (fun h => ?_)
  all_goals refine stp ?_; try with_reducible exact True.intro
  all_goals simp [h, constV]
theorem toIntS (l : List Int) (hl : (l.length : Int) ≤ 1048576) : ConT Tryd.prog 13 [.il l] (.own 0 0 l.length) [.arr (.int .i64) l true] := by
  refine conT_of hmix hTab Tryd.func13 rfl rfl (by kernel_rfl) (by show 1 ≤ Tryd.f13.ntmps; decide) ?_
  refine stp ?_; try with_reducible exact True.intro
  refine ⟨Nat, fun i => i ≤ l.length, fun i => l.length - i, fun i => [(0, .il l), (3, .own 0 0 l.length), (4, .i i)], fun i => [.arr (.int .i64) (l.take i ++ List.replicate (l.length - i) 0) true], ⟨0, ⟨.frz [], [0], ⟨rfl, rfl, rfl, trivial⟩, ⟨rfl, trivial⟩, by decide, rfl, rfl, rfl⟩, Nat.zero_le _⟩, fun i hi => ?_⟩
  refine stp ?_; try with_reducible exact True.intro
  refine Br.mk (fun h => ?_) (fun h => ?_) <;> simp at h
  · refine stp ?_; try with_reducible exact True.intro
    refine ⟨i + 1, ⟨.frz [], [0], ⟨rfl, rfl, rfl, trivial⟩, ⟨?_, trivial⟩, by decide, rfl, rfl, rfl⟩, h, by dsimp only; omega⟩
    refine congrArg (fun x => some (Obj.arr (.int .i64) x true)) ?_
    have := fill_step id l (0 : Int) rfl (rd_get (l := l) (i := (i : Int)) (by simpa using h))
    simpa using this
  · refine stp ?_; try with_reducible exact True.intro
    obtain rfl : i = l.length := Nat.le_antisymm hi h
    exact ⟨.frz [], [0], ⟨rfl, trivial⟩, ⟨by simp [Obj.ren, frzI], trivial⟩, by decide, rfl, rfl, rfl⟩
end Go.Proofs.YtffiddkignmobaaDoorTv
end
section
open Go Go.Proofs.YtffiddkignmobaaDoorVe Go.Proofs.YtffiddkignmobaaDoorTv Go.Proofs
namespace Go.Proofs.YtffiddkignmobaaDoorTv
set_option maxRecDepth 8000
set_option maxHeartbeats 2000000
/-- A law's own checks: rows that are equal. -/
theorem ConS.toT {P : Program} {f : Nat} {args : List V} {rs : V} (h : ConS P f args rs) : ConT P f args rs [] := by
  obtain ⟨h1, h2, h3⟩ := h
  refine ⟨h2, fun m s avs hno hs hS hv => (h3 m s avs hno hs hS hv).mono fun av H' ⟨e1, e2⟩ => ⟨m, e2.symm, hS, Kp.refl m [], Fr.refl m s, ?_⟩⟩
  rw [e1]; exact scal_vt m [] rs h1
theorem eqIntS (l m : List Int) (hl : (l.length : Int) ≤ 274877906944) : ConS Tryd.prog 15 [.il l, .il m] (.b (decide (l = m))) := by
  refine conS_of hmix hTab Tryd.func15 rfl rfl (by kernel_rfl) (by show 2 ≤ Tryd.f15.ntmps; decide) rfl ?_
  refine stp ?_; try with_reducible exact True.intro
  refine Br.mk (fun h => ?_) (fun h => ?_) <;> simp at h
  · refine stp ?_; try with_reducible exact True.intro
    have : l ≠ m := fun e => h (by rw [e])
    simp [this]
  · refine stp ?_; try with_reducible exact True.intro
    refine ⟨Nat, fun i => i ≤ l.length ∧ ∀ k, k < i → rd l k = rd m k, fun i => l.length - i, fun i => [(0, .il l), (1, .il m), (5, .i i)], fun i => [], ⟨0, ⟨.frz [], [], ⟨rfl, rfl, rfl, trivial⟩, trivial, by decide, rfl, rfl, rfl⟩, by simp⟩, fun i ⟨hi, hk⟩ => ?_⟩
    refine stp ?_; try with_reducible exact True.intro
    refine Br.mk (fun h1 => ?_) (fun h1 => ?_) <;> simp at h1
    · refine stp ?_; try with_reducible exact True.intro
      refine Br.mk (fun h2 => ?_) (fun h2 => ?_) <;> simp at h2
      · refine stp ?_; try with_reducible exact True.intro
        have : l ≠ m := fun e => h2 (by rw [e])
        simp [this]
      · refine stp ?_; try with_reducible exact True.intro
        refine ⟨i + 1, ⟨.frz [], [], ⟨rfl, rfl, rfl, trivial⟩, trivial, by decide, rfl, rfl, rfl⟩, ⟨h1, fun k hk1 => ?_⟩, by dsimp only; omega⟩
        by_cases e : k = i
        · rw [e]; exact h2
        · exact hk k (by omega)
    · refine stp ?_; try with_reducible exact True.intro
      have : l = m := by
        refine List.ext_getElem (by omega) fun k h2 h3 => ?_
        have := hk k (by omega)
        simpa [rd, h2, h3] using this
      simp [this]
end Go.Proofs.YtffiddkignmobaaDoorTv
end
section
open Go Go.Proofs.YtffiddkignmobaaDoorVe Go.Proofs.YtffiddkignmobaaDoorTv Go.Proofs
namespace Go.Proofs.YtffiddkignmobaaDoorTv
set_option maxRecDepth 8000
set_option maxHeartbeats 2000000
theorem rdR_memA {ll : List (List Int)} {j : Nat} (h : j < ll.length) : rdR ll j ∈ ll := by simp [rdR, h]
theorem rd_memA {l : List Int} {j : Nat} (h : j < l.length) : rd l j ∈ l := by simp [rd, h]
theorem drop_consA {l : List Int} {i : Nat} (h : i < l.length) : l.drop i = rd l i :: l.drop (i + 1) := by
  rw [List.drop_eq_getElem_cons h]
  simp [rd, h]
theorem drop_consB {l : List (List Int)} {i : Nat} (h : i < l.length) : l.drop i = rdR l i :: l.drop (i + 1) := by
  rw [List.drop_eq_getElem_cons h]
  simp [rdR, h]
theorem take_succA {l : List Int} {i : Nat} (h : i < l.length) : l.take (i + 1) = l.take i ++ [rd l i] := by
  rw [List.take_add_one]
  simp [rd, h]
theorem take_succB {l : List (List Int)} {i : Nat} (h : i < l.length) : l.take (i + 1) = l.take i ++ [rdR l i] := by
  rw [List.take_add_one]
  simp [rdR, h]
def isLet (x : Int) : Bool := decide (x ≠ 0) && decide (-8 ≤ x ∧ x ≤ 8)
def wordOk (w : List Int) : Bool := w.all isLet && decide (w.length ≤ 24)
def absI (x : Int) : Int := max x (-x)
theorem absI_let {x : Int} (h : isLet x = true) : 1 ≤ absI x ∧ absI x ≤ 8 := by
  simp only [isLet, Bool.and_eq_true, decide_eq_true_eq] at h
  unfold absI; omega
theorem isLetter (x : Int) : ConS Tryd.prog 220 [.i x] (.b (isLet x)) := by
  refine conS_of hmix hTab Tryd.func220 rfl rfl (by kernel_rfl) (by show 1 ≤ Tryd.f220.ntmps; decide) rfl ?_
  unfold isLet
  refine stp ?_; try with_reducible exact True.intro
  by_cases h : x = 0
  · subst h
    refine brF rfl ?_
    refine stp ?_; try with_reducible exact True.intro
    simp
  · refine brT (by simp [h]) ?_
    refine stp ?_; try with_reducible exact True.intro
    refine useT ((within x (-8) 8).toT) ?_; try with_reducible exact True.intro
    simp [h]
theorem l2Letter (x : Int) : ConS Tryd.prog 217 [.i x] (.b (isLet x)) := by
  refine conS_of hmix hTab Tryd.func217 rfl rfl (by kernel_rfl) (by show 1 ≤ Tryd.f217.ntmps; decide) rfl ?_
  unfold isLet
  refine stp ?_; try with_reducible exact True.intro
  refine useT ((l1In x 1 8).toT) ?_; try with_reducible exact True.intro
  by_cases h : 1 ≤ x ∧ x ≤ 8
  · have h0 : x ≠ 0 := by omega
    have h1 : -8 ≤ x ∧ x ≤ 8 := by omega
    simp only [h, and_self, decide_true]
    refine stp ?_; try with_reducible exact True.intro
    simp [h0, h1]
  · simp only [h, decide_false]
    refine stp ?_; try with_reducible exact True.intro
    refine useT ((l1In x (-8) (-1)).toT) ?_; try with_reducible exact True.intro
    have : decide (-8 ≤ x ∧ x ≤ -1) = (decide (x ≠ 0) && decide (-8 ≤ x ∧ x ≤ 8)) := by
      rw [← Bool.decide_and]
      exact decide_eq_decide.2 (by omega)
    rw [this]
theorem l1MaxA (a b : Int) : ConS Tryd.prog 216 [.i a, .i b] (.i (max a b)) := by
  refine conS_of hmix hTab Tryd.func216 rfl rfl (by kernel_rfl) (by show 2 ≤ Tryd.f216.ntmps; decide) rfl ?_
  refine stp ?_; try with_reducible exact True.intro
  refine Br.mk (fun h => ?_) (fun h => ?_) <;> simp [-Int.ofNat_toNat] at h
  · refine stp ?_; try with_reducible exact True.intro
    rw [Int.max_eq_left (by omega)]
  · refine stp ?_; try with_reducible exact True.intro
    rw [Int.max_eq_right (by omega)]
theorem l3Abs (x : Int) (h : -1000000 ≤ x ∧ x ≤ 1000000) : ConS Tryd.prog 128 [.i x] (.i (absI x)) := by
  refine conS_of hmix hTab Tryd.func128 rfl rfl (by kernel_rfl) (by show 1 ≤ Tryd.f128.ntmps; decide) rfl ?_
  refine stp ?_; try with_reducible exact True.intro
  refine useT ((l1MaxA x (-x)).toT) ?_; try with_reducible exact True.intro
  rfl
theorem sizeI (x : Int) (h : -1000000 ≤ x ∧ x ≤ 1000000) : ConS Tryd.prog 182 [.i x] (.i (absI x)) := by
  refine conS_of hmix hTab Tryd.func182 rfl rfl (by kernel_rfl) (by show 1 ≤ Tryd.f182.ntmps; decide) rfl ?_
  refine stp ?_; try with_reducible exact True.intro
  unfold absI maxI
  by_cases c : -x > x
  · rw [if_pos c, Int.max_eq_right (by omega)]
  · rw [if_neg c, Int.max_eq_left (by omega)]
theorem IsWordI (w : List Int) (hw : (w.length : Int) ≤ 274877906944) : ConS Tryd.prog 142 [.il w] (.b (wordOk w)) := by
  refine conS_of hmix hTab Tryd.func142 rfl rfl (by kernel_rfl) (by show 1 ≤ Tryd.f142.ntmps; decide) rfl ?_
  refine stp ?_; try with_reducible exact True.intro
  refine ⟨Nat, fun i => i ≤ w.length ∧ (w.drop i).all isLet = w.all isLet, fun i => w.length - i, fun i => [(0, .il w), (5, .il w), (6, .i w.length), (7, .i i)], fun i => [], ⟨0, (fitK [] []), by simp⟩, fun i ⟨hi, hc⟩ => ?_⟩
  dsimp only at hi hc ⊢
  refine stp ?_; try with_reducible exact True.intro
  refine Br.mk (fun h1 => ?_) (fun h1 => ?_) <;> simp [-Int.ofNat_toNat] at h1
  · rw [drop_consA h1, List.all_cons] at hc
    have hL := isLetter (rd w i)
    cases hl : isLet (rd w i) with
    | true =>
      rw [hl, Bool.true_and] at hc
      rw [hl] at hL
      refine stp ?_; try with_reducible exact True.intro
      refine useT (hL.toT) ?_; try with_reducible exact True.intro
      exact ⟨i + 1, (fitK [] []), ⟨h1, hc⟩, by first | ((try dsimp only); omega) | (simp; omega)⟩
    | false =>
      rw [hl, Bool.false_and] at hc
      rw [hl] at hL
      refine stp ?_; try with_reducible exact True.intro
      refine useT (hL.toT) ?_; try with_reducible exact True.intro
      rw [wordOk, ← hc, Bool.false_and]
  · obtain rfl : i = w.length := by omega
    rw [List.drop_length, List.all_nil] at hc
    refine stp ?_; try with_reducible exact True.intro
    rw [wordOk, ← hc, Bool.true_and]
    simp
    omega
theorem IsWordS (w : List Int) (hw : (w.length : Int) ≤ 274877906944) : ConS Tryd.prog 129 [.il w] (.b (wordOk w)) := by
  refine conS_of hmix hTab Tryd.func129 rfl rfl (by kernel_rfl) (by show 1 ≤ Tryd.f129.ntmps; decide) rfl ?_
  refine stp ?_; try with_reducible exact True.intro
  refine ⟨Nat, fun i => i ≤ w.length ∧ (w.drop i).all isLet = w.all isLet, fun i => w.length - i, fun i => [(0, .il w), (3, .i i)], fun i => [], ⟨0, (fitK [] []), by simp⟩, fun i ⟨hi, hc⟩ => ?_⟩
  dsimp only at hi hc ⊢
  refine stp ?_; try with_reducible exact True.intro
  refine Br.mk (fun h1 => ?_) (fun h1 => ?_) <;> simp [-Int.ofNat_toNat] at h1
  · rw [drop_consA h1, List.all_cons] at hc
    have hL := l2Letter (rd w i)
    cases hl : isLet (rd w i) with
    | true =>
      rw [hl, Bool.true_and] at hc
      rw [hl] at hL
      refine stp ?_; try with_reducible exact True.intro
      refine useT (hL.toT) ?_; try with_reducible exact True.intro
      exact ⟨i + 1, (fitK [] []), ⟨h1, hc⟩, by first | ((try dsimp only); omega) | (simp; omega)⟩
    | false =>
      rw [hl, Bool.false_and] at hc
      rw [hl] at hL
      refine stp ?_; try with_reducible exact True.intro
      refine useT (hL.toT) ?_; try with_reducible exact True.intro
      rw [wordOk, ← hc, Bool.false_and]
  · obtain rfl : i = w.length := by omega
    rw [List.drop_length, List.all_nil] at hc
    refine stp ?_; try with_reducible exact True.intro
    rw [wordOk, ← hc, Bool.true_and]
    simp
    omega
end Go.Proofs.YtffiddkignmobaaDoorTv
end
section
open Go Go.Proofs.YtffiddkignmobaaDoorVe Go.Proofs.YtffiddkignmobaaDoorTv Go.Proofs
namespace Go.Proofs.YtffiddkignmobaaDoorTv
set_option maxRecDepth 8000
set_option maxHeartbeats 2000000
def gc (a b : Int) : Int := (Int.gcd a b : Int)
theorem gcd_step {x y : Int} (h : y ≠ 0) : Int.gcd y (x.tmod y) = Int.gcd x y := by
  have h1 : (x.tmod y).natAbs = x.natAbs % y.natAbs := Int.natAbs_tmod x y
  unfold Int.gcd
  rw [h1, Nat.gcd_comm, ← Nat.gcd_rec, Nat.gcd_comm]
theorem absN (n : Int) : absI n = (n.natAbs : Int) := by unfold absI; omega
theorem sizeN (n : Int) (h : -1000000 ≤ n ∧ n ≤ 1000000) : ConS Tryd.prog 182 [.i n] (.i n.natAbs) := absN n ▸ sizeI n h
theorem l3AbsN (n : Int) (h : -1000000 ≤ n ∧ n ≤ 1000000) : ConS Tryd.prog 128 [.i n] (.i n.natAbs) := absN n ▸ l3Abs n h
theorem tmod_lt {x y : Int} (h : y ≠ 0) : (x.tmod y).natAbs < y.natAbs := by
  rw [Int.natAbs_tmod]
  exact Nat.mod_lt _ (by omega)
theorem gcdI (a b : Int) (ha : -1000000 ≤ a ∧ a ≤ 1000000) (hb : -1000000 ≤ b ∧ b ≤ 1000000) : ConS Tryd.prog 206 [.i a, .i b] (.i (gc a b)) := by
  refine conS_of hmix hTab Tryd.func206 rfl rfl (by kernel_rfl) (by show 2 ≤ Tryd.f206.ntmps; decide) rfl ?_
  refine stp ?_; try with_reducible exact True.intro
  refine useT ((sizeN a ha).toT) ?_; try with_reducible exact True.intro
  refine useT ((sizeN b hb).toT) ?_; try with_reducible exact True.intro
  refine ⟨Int × Int, fun p => Int.gcd p.1 p.2 = Int.gcd a b ∧ 0 ≤ p.1 ∧ 0 ≤ p.2, fun p => p.2.toNat, fun p => [(0, .i p.1), (1, .i p.2)], fun _ => [], ⟨((a.natAbs : Int), (b.natAbs : Int)), (fitK [] []), by simp [Int.gcd], by omega, by omega⟩, fun ⟨x, y⟩ ⟨hi, h1, h2⟩ => ?_⟩
  dsimp only at hi h1 h2 ⊢
  refine stp ?_; try with_reducible exact True.intro
  refine Br.mk (fun h3 => ?_) (fun h3 => ?_) <;> simp [-Int.ofNat_toNat] at h3
  · have h4 := tmod_lt (x := x) h3
    have h5 := Int.tmod_nonneg y h1
    have h6 := gcd_step (x := x) h3
    refine stp ?_; try with_reducible exact True.intro
    refine ⟨(y, x.tmod y), (fitK [] []), ⟨?_, h2, h5⟩, ?_⟩
    · dsimp only; rw [h6]; exact hi
    · dsimp only; revert h4 h5; generalize x.tmod y = z; intro h4 h5; omega
  · obtain rfl : y = 0 := by omega
    refine stp ?_; try with_reducible exact True.intro
    refine congrArg (fun x : Int => V.i x) ?_
    unfold gc
    rw [← hi]
    simp [Int.gcd]
    omega
theorem gcdS (a b : Int) (ha : -1000000 ≤ a ∧ a ≤ 1000000) (hb : -1000000 ≤ b ∧ b ≤ 1000000) : ConS Tryd.prog 204 [.i a, .i b] (.i (gc a b)) := by
  refine conS_of hmix hTab Tryd.func204 rfl rfl (by kernel_rfl) (by show 2 ≤ Tryd.f204.ntmps; decide) rfl ?_
  refine stp ?_; try with_reducible exact True.intro
  refine ⟨Int × Int, fun p => Int.gcd p.1 p.2 = Int.gcd a b ∧ (-1000000 ≤ p.1 ∧ p.1 ≤ 1000000) ∧ (-1000000 ≤ p.2 ∧ p.2 ≤ 1000000), fun p => p.2.natAbs, fun p => [(0, .i p.1), (1, .i p.2)], fun _ => [], ⟨(a, b), (fitK [] []), rfl, ha, hb⟩, fun ⟨x, y⟩ ⟨hi, h1, h2⟩ => ?_⟩
  dsimp only at hi h1 h2 ⊢
  refine stp ?_; try with_reducible exact True.intro
  refine Br.mk (fun h3 => ?_) (fun h3 => ?_) <;> simp [-Int.ofNat_toNat] at h3
  · have h4 := tmod_lt (x := x) h3
    have h6 := gcd_step (x := x) h3
    refine stp ?_; try with_reducible exact True.intro
    refine ⟨(y, x.tmod y), (fitK [] []), ⟨?_, h2, ?_⟩, ?_⟩
    · dsimp only; rw [h6]; exact hi
    · dsimp only; revert h4; generalize x.tmod y = z; intro h4; omega
    · exact h4
  · obtain rfl : y = 0 := by omega
    refine stp ?_; try with_reducible exact True.intro
    refine useT ((l3AbsN x h1).toT) ?_; try with_reducible exact True.intro
    refine congrArg (fun x : Int => V.i x) ?_
    unfold gc
    rw [← hi]
    simp [Int.gcd]
end Go.Proofs.YtffiddkignmobaaDoorTv
end
section
open Go Go.Proofs.YtffiddkignmobaaDoorVe Go.Proofs.YtffiddkignmobaaDoorTv Go.Proofs
namespace Go.Proofs.YtffiddkignmobaaDoorTv
set_option maxRecDepth 8000
set_option maxHeartbeats 2000000
abbrev slV (x : Int × Int) : V := .agg [.i x.1, .i x.2]
def slo (p q : Int) : Int × Int := if q < 0 ∨ (q = 0 ∧ p < 0) then (-(p.tdiv (gc p q)), -(q.tdiv (gc p q))) else (p.tdiv (gc p q), q.tdiv (gc p q))
structure GcF (p q : Int) : Prop where
  pos : 0 < gc p q
  le : gc p q ≤ 1000
  pr : -1000 ≤ p.tdiv (gc p q) ∧ p.tdiv (gc p q) ≤ 1000
  qr : -1000 ≤ q.tdiv (gc p q) ∧ q.tdiv (gc p q) ≤ 1000
  pn : p.tdiv (gc p q) < 0 ↔ p < 0
  qn : q.tdiv (gc p q) < 0 ↔ q < 0
  qz : q.tdiv (gc p q) = 0 ↔ q = 0
theorem gc_f {p q : Int} (hp : -1000 ≤ p ∧ p ≤ 1000) (hq : -1000 ≤ q ∧ q ≤ 1000) (hz : ¬(p = 0 ∧ q = 0)) : GcF p q := by
  have h0 : 0 < gc p q := by
    unfold gc
    have : Int.gcd p q ≠ 0 := fun h => hz ⟨(Int.gcd_eq_zero_iff.1 h).1, (Int.gcd_eq_zero_iff.1 h).2⟩
    omega
  have hle : gc p q ≤ 1000 := by
    unfold gc
    by_cases h : p = 0
    · subst h; simp; omega
    · have := Nat.gcd_le_left q.natAbs (show 0 < p.natAbs by omega)
      unfold Int.gcd
      omega
  have dp : gc p q ∣ p := Int.gcd_dvd_left ..
  have dq : gc p q ∣ q := Int.gcd_dvd_right ..
  obtain ⟨a, ha⟩ := dp
  obtain ⟨b, hb⟩ := dq
  generalize hg : gc p q = d at *
  subst ha hb
  have e1 : (d * a).tdiv d = a := Int.mul_tdiv_cancel_left _ (by omega)
  have e2 : (d * b).tdiv d = b := Int.mul_tdiv_cancel_left _ (by omega)
  have s : ∀ x : Int, (x < 0 ↔ d * x < 0) ∧ (x = 0 ↔ d * x = 0) ∧ (x.natAbs ≤ (d * x).natAbs) := fun x => by
    refine ⟨⟨fun h => Int.mul_neg_of_pos_of_neg h0 h, fun h => ?_⟩, ⟨fun h => by rw [h, Int.mul_zero], fun h => ?_⟩, ?_⟩
    · by_cases h1 : x < 0
      · exact h1
      · have := Int.mul_nonneg (Int.le_of_lt h0) (show 0 ≤ x by omega)
        omega
    · rcases Int.mul_eq_zero.1 h with h1 | h1 <;> omega
    · rw [Int.natAbs_mul]
      exact Nat.le_mul_of_pos_left _ (by omega)
  have sa := s a
  have sb := s b
  refine ⟨?_, ?_, ?_, ?_, ?_, ?_, ?_⟩ <;> simp only [hg, e1, e2]
  · exact h0
  · exact hle
  · omega
  · omega
  · exact sa.1
  · exact sb.1
  · exact sb.2.1
theorem lowest (p q : Int) (hp : -1000 ≤ p ∧ p ≤ 1000) (hq : -1000 ≤ q ∧ q ≤ 1000) (hz : ¬(p = 0 ∧ q = 0)) : ConS Tryd.prog 205 [.i p, .i q] (slV (slo p q)) := by
  obtain ⟨f0, fl, fp, fq, f1, f2, f3⟩ := gc_f hp hq hz
  have w := gcdI p q (by omega) (by omega)
  unfold slo
  refine conS_of hmix hTab Tryd.func205 rfl rfl (by kernel_rfl) (by show 2 ≤ Tryd.f205.ntmps; decide) rfl ?_
  refine stp ?_; try with_reducible exact True.intro
  generalize gc p q = d at *
  refine useT (w.toT) ?_; try with_reducible exact True.intro
  generalize p.tdiv d = a at *
  generalize q.tdiv d = b at *
  refine Br.mk (fun h1 => ?_) (fun h1 => ?_) <;> simp [-Int.ofNat_toNat] at h1
  · refine stp ?_; try with_reducible exact True.intro
    rw [if_pos (by omega)]; rfl
  · refine stp ?_; try with_reducible exact True.intro
    refine Br.mk (fun h2 => ?_) (fun h2 => ?_) <;> simp [-Int.ofNat_toNat] at h2
    · refine stp ?_; try with_reducible exact True.intro
      refine Br.mk (fun h3 => ?_) (fun h3 => ?_) <;> simp [-Int.ofNat_toNat] at h3
      · refine stp ?_; try with_reducible exact True.intro
        rw [if_pos (by omega)]; rfl
      · refine stp ?_; try with_reducible exact True.intro
        rw [if_neg (by omega)]; rfl
    · refine stp ?_; try with_reducible exact True.intro
      rw [if_neg (by omega)]; rfl
def slO (p q : Int) : (Int × Int) × Bool := if (-1000 ≤ p ∧ p ≤ 1000) ∧ (-1000 ≤ q ∧ q ≤ 1000) ∧ ¬(p = 0 ∧ q = 0) then (slo p q, true) else ((0, 0), false)
abbrev slOV (x : (Int × Int) × Bool) : V := .tup [slV x.1, .b x.2]
theorem SlopeOfI (p q : Int) : ConS Tryd.prog 108 [.i p, .i q] (slOV (slO p q)) := by
  have w1 := within p (-1000) 1000
  have w2 := within q (-1000) 1000
  have w3 := lowest p q
  unfold slO
  refine conS_of hmix hTab Tryd.func108 rfl rfl (by kernel_rfl) (by show 2 ≤ Tryd.f108.ntmps; decide) rfl ?_
  refine stp ?_; try with_reducible exact True.intro
  refine Br.mk (fun h1 => ?_) (fun h1 => ?_) <;> simp [-Int.ofNat_toNat] at h1
  · refine stp ?_; try with_reducible exact True.intro
    refine Br.mk (fun h2 => ?_) (fun h2 => ?_) <;> simp [-Int.ofNat_toNat] at h2
    · refine stp ?_; try with_reducible exact True.intro
      rw [if_neg (by omega)]; rfl
    · refine stp ?_; try with_reducible exact True.intro
      refine useT (w1.toT) ?_; try with_reducible exact True.intro
      refine Br.mk (fun h3 => ?_) (fun h3 => ?_) <;> simp [-Int.ofNat_toNat] at h3
      · refine stp ?_; try with_reducible exact True.intro
        rw [if_neg (by omega)]; rfl
      · refine stp ?_; try with_reducible exact True.intro
        refine useT (w2.toT) ?_; try with_reducible exact True.intro
        refine Br.mk (fun h4 => ?_) (fun h4 => ?_) <;> simp [-Int.ofNat_toNat] at h4
        · refine stp ?_; try with_reducible exact True.intro
          rw [if_neg (by omega)]; rfl
        · rw [if_pos (by omega)]
          refine stp ?_; try with_reducible exact True.intro
          refine useT ((w3 (by omega) (by omega) (by omega)).toT) ?_; try with_reducible exact True.intro
          try rfl
  · refine stp ?_; try with_reducible exact True.intro
    refine useT (w1.toT) ?_; try with_reducible exact True.intro
    refine Br.mk (fun h3 => ?_) (fun h3 => ?_) <;> simp [-Int.ofNat_toNat] at h3
    · refine stp ?_; try with_reducible exact True.intro
      rw [if_neg (by omega)]; rfl
    · refine stp ?_; try with_reducible exact True.intro
      refine useT (w2.toT) ?_; try with_reducible exact True.intro
      refine Br.mk (fun h4 => ?_) (fun h4 => ?_) <;> simp [-Int.ofNat_toNat] at h4
      · refine stp ?_; try with_reducible exact True.intro
        rw [if_neg (by omega)]; rfl
      · rw [if_pos (by omega)]
        refine stp ?_; try with_reducible exact True.intro
        refine useT ((w3 (by omega) (by omega) (by omega)).toT) ?_; try with_reducible exact True.intro
        try rfl
theorem SlopeOfS (p q : Int) : ConS Tryd.prog 103 [.i p, .i q] (slOV (slO p q)) := by
  have w1 := l1In p (-1000) 1000
  have w2 := l1In q (-1000) 1000
  have w3 := gcdS p q
  have fc := @gc_f p q
  unfold slO
  refine conS_of hmix hTab Tryd.func103 rfl rfl (by kernel_rfl) (by show 2 ≤ Tryd.f103.ntmps; decide) rfl ?_
  refine stp ?_; try with_reducible exact True.intro
  refine useT (w1.toT) ?_; try with_reducible exact True.intro
  refine Br.mk (fun h3 => ?_) (fun h3 => ?_) <;> simp [-Int.ofNat_toNat] at h3
  · refine stp ?_; try with_reducible exact True.intro
    rw [if_neg (by omega)]; rfl
  · refine stp ?_; try with_reducible exact True.intro
    refine useT (w2.toT) ?_; try with_reducible exact True.intro
    refine Br.mk (fun h4 => ?_) (fun h4 => ?_) <;> simp [-Int.ofNat_toNat] at h4
    · refine stp ?_; try with_reducible exact True.intro
      rw [if_neg (by omega)]; rfl
    · refine stp ?_; try with_reducible exact True.intro
      refine Br.mk (fun h1 => ?_) (fun h1 => ?_) <;> simp [-Int.ofNat_toNat] at h1
      · refine stp ?_; try with_reducible exact True.intro
        refine Br.mk (fun h2 => ?_) (fun h2 => ?_) <;> simp [-Int.ofNat_toNat] at h2
        · refine stp ?_; try with_reducible exact True.intro
          rw [if_neg (by omega)]; rfl
        · refine stp ?_; try with_reducible exact True.intro
          obtain ⟨f0, fl, fp, fq, f1, f2, f3⟩ := fc (by omega) (by omega) (by omega)
          have w3 := w3 (by omega) (by omega)
          rw [if_pos (by omega)]
          unfold slo
          generalize gc p q = d at *
          refine useT (w3.toT) ?_; try with_reducible exact True.intro
          refine Br.mk (fun h5 => ?_) (fun h5 => ?_) <;> simp [-Int.ofNat_toNat] at h5
          · refine stp ?_; try with_reducible exact True.intro
            first | (rw [if_pos (by omega), Int.tdiv_neg, Int.tdiv_neg]; rfl) | (rw [if_neg (by omega)]; rfl)
          · refine stp ?_; try with_reducible exact True.intro
            refine Br.mk (fun h6 => ?_) (fun h6 => ?_) <;> simp [-Int.ofNat_toNat] at h6
            · refine stp ?_; try with_reducible exact True.intro
              refine Br.mk (fun h7 => ?_) (fun h7 => ?_) <;> simp [-Int.ofNat_toNat] at h7
              · refine stp ?_; try with_reducible exact True.intro
                first | (rw [if_pos (by omega), Int.tdiv_neg, Int.tdiv_neg]; rfl) | (rw [if_neg (by omega)]; rfl)
              · refine stp ?_; try with_reducible exact True.intro
                first | (rw [if_pos (by omega), Int.tdiv_neg, Int.tdiv_neg]; rfl) | (rw [if_neg (by omega)]; rfl)
            · refine stp ?_; try with_reducible exact True.intro
              first | (rw [if_pos (by omega), Int.tdiv_neg, Int.tdiv_neg]; rfl) | (rw [if_neg (by omega)]; rfl)
      · refine stp ?_; try with_reducible exact True.intro
        obtain ⟨f0, fl, fp, fq, f1, f2, f3⟩ := fc (by omega) (by omega) (by omega)
        have w3 := w3 (by omega) (by omega)
        rw [if_pos (by omega)]
        unfold slo
        generalize gc p q = d at *
        refine useT (w3.toT) ?_; try with_reducible exact True.intro
        refine Br.mk (fun h5 => ?_) (fun h5 => ?_) <;> simp [-Int.ofNat_toNat] at h5
        · refine stp ?_; try with_reducible exact True.intro
          first | (rw [if_pos (by omega), Int.tdiv_neg, Int.tdiv_neg]; rfl) | (rw [if_neg (by omega)]; rfl)
        · refine stp ?_; try with_reducible exact True.intro
          refine Br.mk (fun h6 => ?_) (fun h6 => ?_) <;> simp [-Int.ofNat_toNat] at h6
          · refine stp ?_; try with_reducible exact True.intro
            refine Br.mk (fun h7 => ?_) (fun h7 => ?_) <;> simp [-Int.ofNat_toNat] at h7
            · refine stp ?_; try with_reducible exact True.intro
              first | (rw [if_pos (by omega), Int.tdiv_neg, Int.tdiv_neg]; rfl) | (rw [if_neg (by omega)]; rfl)
            · refine stp ?_; try with_reducible exact True.intro
              first | (rw [if_pos (by omega), Int.tdiv_neg, Int.tdiv_neg]; rfl) | (rw [if_neg (by omega)]; rfl)
          · refine stp ?_; try with_reducible exact True.intro
            first | (rw [if_pos (by omega), Int.tdiv_neg, Int.tdiv_neg]; rfl) | (rw [if_neg (by omega)]; rfl)
def isSlp (x : Int × Int) : Bool := decide ((-1000 ≤ x.1 ∧ x.1 ≤ 1000) ∧ (0 ≤ x.2 ∧ x.2 ≤ 1000) ∧ (0 < x.2 ∨ x.1 = 1) ∧ gc x.1 x.2 = 1)
theorem IsSlopeI (p q : Int) : ConS Tryd.prog 109 [slV (p, q)] (.b (isSlp (p, q))) := by
  have w1 := within p (-1000) 1000
  have w2 := within q 0 1000
  have w3 := gcdI p q
  unfold isSlp
  refine conS_of hmix hTab Tryd.func109 rfl rfl (by kernel_rfl) (by show 1 ≤ Tryd.f109.ntmps; decide) rfl ?_
  dsimp only [slV]
  refine stp ?_; try with_reducible exact True.intro
  refine useT (w1.toT) ?_; try with_reducible exact True.intro
  refine Br.mk (fun h3 => ?_) (fun h3 => ?_) <;> simp [-Int.ofNat_toNat] at h3
  · refine stp ?_; try with_reducible exact True.intro
    rw [decide_eq_false (by omega)]
  · refine stp ?_; try with_reducible exact True.intro
    refine useT (w2.toT) ?_; try with_reducible exact True.intro
    refine Br.mk (fun h4 => ?_) (fun h4 => ?_) <;> simp [-Int.ofNat_toNat] at h4
    · refine stp ?_; try with_reducible exact True.intro
      rw [decide_eq_false (by omega)]
    · have w3 := w3 (by omega) (by omega)
      refine stp ?_; try with_reducible exact True.intro
      generalize gc p q = d at *
      refine useT (w3.toT) ?_; try with_reducible exact True.intro
      refine Br.mk (fun h5 => ?_) (fun h5 => ?_) <;> simp [-Int.ofNat_toNat] at h5
      · refine stp ?_; try with_reducible exact True.intro
        rw [decide_eq_false (by omega)]
      · refine stp ?_; try with_reducible exact True.intro
        refine Br.mk (fun h6 => ?_) (fun h6 => ?_) <;> simp [-Int.ofNat_toNat] at h6
        · refine stp ?_; try with_reducible exact True.intro
          rw [decide_eq_true (by omega)]
        · refine stp ?_; try with_reducible exact True.intro
          exact congrArg (fun b : Bool => V.b b) (decide_eq_decide.2 (by omega))
theorem IsSlopeS (p q : Int) : ConS Tryd.prog 104 [slV (p, q)] (.b (isSlp (p, q))) := by
  have w1 := l1In p (-1000) 1000
  have w2 := l1In q 0 1000
  have w3 := gcdS p q
  unfold isSlp
  refine conS_of hmix hTab Tryd.func104 rfl rfl (by kernel_rfl) (by show 1 ≤ Tryd.f104.ntmps; decide) rfl ?_
  dsimp only [slV]
  refine stp ?_; try with_reducible exact True.intro
  refine useT (w1.toT) ?_; try with_reducible exact True.intro
  refine Br.mk (fun h3 => ?_) (fun h3 => ?_) <;> simp [-Int.ofNat_toNat] at h3
  · refine stp ?_; try with_reducible exact True.intro
    rw [decide_eq_false (by omega)]
  · refine stp ?_; try with_reducible exact True.intro
    refine useT (w2.toT) ?_; try with_reducible exact True.intro
    refine Br.mk (fun h4 => ?_) (fun h4 => ?_) <;> simp [-Int.ofNat_toNat] at h4
    · refine stp ?_; try with_reducible exact True.intro
      rw [decide_eq_false (by omega)]
    · have w3 := w3 (by omega) (by omega)
      generalize gc p q = d at *
      refine stp ?_; try with_reducible exact True.intro
      refine Br.mk (fun h5 => ?_) (fun h5 => ?_) <;> simp [-Int.ofNat_toNat] at h5
      · refine stp ?_; try with_reducible exact True.intro
        refine Br.mk (fun h6 => ?_) (fun h6 => ?_) <;> simp [-Int.ofNat_toNat] at h6
        · refine stp ?_; try with_reducible exact True.intro
          rw [decide_eq_false (by omega)]
        · refine stp ?_; try with_reducible exact True.intro
          refine useT (w3.toT) ?_; try with_reducible exact True.intro
          exact congrArg (fun b : Bool => V.b b) (decide_eq_decide.2 (by omega))
      · refine stp ?_; try with_reducible exact True.intro
        refine useT (w3.toT) ?_; try with_reducible exact True.intro
        exact congrArg (fun b : Bool => V.b b) (decide_eq_decide.2 (by omega))
end Go.Proofs.YtffiddkignmobaaDoorTv
end
section
open Go Go.Proofs.YtffiddkignmobaaDoorVe Go.Proofs.YtffiddkignmobaaDoorTv Go.Proofs
namespace Go.Proofs.YtffiddkignmobaaDoorTv
set_option maxRecDepth 8000
set_option maxHeartbeats 2000000
abbrev Mx := Int × Int × Int × Int
abbrev mxV (m : Mx) : V := .agg [.i m.1, .i m.2.1, .i m.2.2.1, .i m.2.2.2]
def sml (x : Int) : Bool := decide (-1000 ≤ x ∧ x ≤ 1000)
theorem areSmall (l : List Int) (hl : (l.length : Int) ≤ 1000000) : ConS Tryd.prog 107 [.il l] (.b (l.all sml)) := by
  refine conS_of hmix hTab Tryd.func107 rfl rfl (by kernel_rfl) (by show 1 ≤ Tryd.f107.ntmps; decide) rfl ?_
  refine stp ?_; try with_reducible exact True.intro
  refine ⟨Nat, fun i => i ≤ l.length ∧ ∀ x ∈ l.take i, sml x = true, fun i => l.length - i, fun i => [(5, .il l), (6, .i l.length), (7, .i i)], fun i => [], ⟨0, (fitK [] []), by simp⟩, fun i ⟨hi, hs⟩ => ?_⟩
  dsimp only at hi hs ⊢
  refine stp ?_; try with_reducible exact True.intro
  refine Br.mk (fun h1 => ?_) (fun h1 => ?_) <;> simp [-Int.ofNat_toNat] at h1
  · refine stp ?_; try with_reducible exact True.intro
    refine useT ((within (rd l i) (-1000) 1000).toT) ?_; try with_reducible exact True.intro
    cases hb : decide (-1000 ≤ rd l i ∧ rd l i ≤ 1000) with
    | false =>
      refine stp ?_; try with_reducible exact True.intro
      rw [(List.all_eq_false (l := l) (p := sml)).2 ⟨rd l i, rd_memA h1, by unfold sml; rw [hb]; exact Bool.false_ne_true⟩]
    | true =>
      refine stp ?_; try with_reducible exact True.intro
      refine ⟨i + 1, (fitK [] []), ⟨by omega, fun x hx => ?_⟩, by first | ((try dsimp only); omega) | (simp; omega)⟩
      rw [take_succA h1] at hx
      rcases List.mem_append.1 hx with hx | hx
      · exact hs x hx
      · rw [List.mem_singleton] at hx
        subst hx
        exact hb
  · have e : i = l.length := by omega
    subst e
    rw [List.take_length] at hs
    refine stp ?_; try with_reducible exact True.intro
    rw [List.all_eq_true.2 hs]
theorem l11Fits (l : List Int) (hl : (l.length : Int) ≤ 1000000) : ConS Tryd.prog 102 [.il l] (.b (l.all sml)) := by
  refine conS_of hmix hTab Tryd.func102 rfl rfl (by kernel_rfl) (by show 1 ≤ Tryd.f102.ntmps; decide) rfl ?_
  refine stp ?_; try with_reducible exact True.intro
  refine ⟨Nat, fun i => i ≤ l.length ∧ ∀ x ∈ l.take i, sml x = true, fun i => l.length - i, fun i => [(0, .il l), (3, .i i)], fun i => [], ⟨0, (fitK [] []), by simp⟩, fun i ⟨hi, hs⟩ => ?_⟩
  dsimp only at hi hs ⊢
  refine stp ?_; try with_reducible exact True.intro
  refine Br.mk (fun h1 => ?_) (fun h1 => ?_) <;> simp [-Int.ofNat_toNat] at h1
  · refine stp ?_; try with_reducible exact True.intro
    refine useT ((l1In (rd l i) (-1000) 1000).toT) ?_; try with_reducible exact True.intro
    cases hb : decide (-1000 ≤ rd l i ∧ rd l i ≤ 1000) with
    | false =>
      refine stp ?_; try with_reducible exact True.intro
      rw [(List.all_eq_false (l := l) (p := sml)).2 ⟨rd l i, rd_memA h1, by unfold sml; rw [hb]; exact Bool.false_ne_true⟩]
    | true =>
      refine stp ?_; try with_reducible exact True.intro
      refine ⟨i + 1, (fitK [] []), ⟨by omega, fun x hx => ?_⟩, by first | ((try dsimp only); omega) | (simp; omega)⟩
      rw [take_succA h1] at hx
      rcases List.mem_append.1 hx with hx | hx
      · exact hs x hx
      · rw [List.mem_singleton] at hx
        subst hx
        exact hb
  · have e : i = l.length := by omega
    subst e
    rw [List.take_length] at hs
    refine stp ?_; try with_reducible exact True.intro
    rw [List.all_eq_true.2 hs]
def isM (m : Mx) : Bool := [m.1, m.2.1, m.2.2.1, m.2.2.2].all sml && decide (m.1 * m.2.2.2 - m.2.1 * m.2.2.1 = 1)
theorem mul_bd {a b n m : Int} (ha : -n ≤ a ∧ a ≤ n) (hb : -m ≤ b ∧ b ≤ m) : -(n * m) ≤ a * b ∧ a * b ≤ n * m := by
  have h : (a * b).natAbs ≤ n.toNat * m.toNat := by
    rw [Int.natAbs_mul]
    exact Nat.mul_le_mul (by omega) (by omega)
  have e : ((n.toNat * m.toNat : Nat) : Int) = n * m := by
    rw [Int.natCast_mul, Int.toNat_of_nonneg (by omega), Int.toNat_of_nonneg (by omega)]
  omega
theorem mul_k {a b : Int} (ha : -1000 ≤ a ∧ a ≤ 1000) (hb : -1000 ≤ b ∧ b ≤ 1000) : -1000000 ≤ a * b ∧ a * b ≤ 1000000 := mul_bd ha hb
structure MxF (a b c d : Int) : Prop where
  a : -1000 ≤ a ∧ a ≤ 1000
  b : -1000 ≤ b ∧ b ≤ 1000
  c : -1000 ≤ c ∧ c ≤ 1000
  d : -1000 ≤ d ∧ d ≤ 1000
theorem sml4 {a b c d : Int} : [a, b, c, d].all sml = true ↔ MxF a b c d := by
  simp only [List.all_cons, List.all_nil, Bool.and_true, Bool.and_eq_true, sml, decide_eq_true_eq]
  exact ⟨fun ⟨h1, h2, h3, h4⟩ => ⟨h1, h2, h3, h4⟩, fun ⟨h1, h2, h3, h4⟩ => ⟨h1, h2, h3, h4⟩⟩
theorem isM_iff {a b c d : Int} : isM (a, b, c, d) = true ↔ MxF a b c d ∧ a * d - b * c = 1 := by
  unfold isM
  rw [Bool.and_eq_true, decide_eq_true_eq]
  exact and_congr sml4 Iff.rfl
theorem IsMatrixI (m : Mx) : ConS Tryd.prog 34 [mxV m] (.b (isM m)) := by
  obtain ⟨a, b, c, d⟩ := m
  have w := areSmall [a, b, c, d] (by simp)
  have hx := @sml4 a b c d
  unfold isM
  dsimp only [mxV]
  generalize [a, b, c, d].all sml = q at *
  refine conS_of hmix hTab Tryd.func34 rfl rfl (by kernel_rfl) (by show 1 ≤ Tryd.f34.ntmps; decide) rfl ?_
  repeat (first | (with_reducible refine wpKs ?_) | (with_reducible refine wpKb ?_) | (with_reducible refine wpKbn ?_) | (with_reducible refine wpKk ?_) | (refine wpKt rfl ?_) | (refine wpKf rfl ?_) | (with_reducible refine wpKr ?_) | ((with_reducible refine wpKd ?_ ?_); kernel_rfl) | (with_reducible refine wpKn ?_) | (with_reducible refine seqKn ?_) | (with_reducible refine drawKn ?_) | (first | refine seqKs rfl rfl rfl rfl ?_ | refine seqKu rfl rfl rfl rfl ?_ | refine drawKs rfl rfl rfl rfl ?_ | refine drawKu rfl rfl rfl rfl ?_) | ((first | refine seqK rfl rfl (fun K' hK => ?_) | refine seqKr rfl rfl rfl rfl (fun K' hK => ?_)); refine stp ?_; with_reducible refine hK _ _ ?_; clear hK K') | ((first | refine drawK rfl rfl (fun K' hK => ?_) | refine drawKr rfl rfl rfl rfl (fun K' hK => ?_)); refine stp ?_; with_reducible refine hK _ _ _ ?_; clear hK K') | (refine seqKz rfl rfl (fun K' hK => ?_); refine stp ?_; with_reducible refine hK _ ?_; clear hK K') | (refine drawKz rfl rfl (fun K' hK => ?_); refine stp ?_; with_reducible refine hK _ _ ?_; clear hK K'))
  (first | refine seqK rfl rfl (fun K' hK => ?_) | refine seqKr rfl rfl rfl rfl (fun K' hK => ?_)); (conv => whnf); refine useT (w.toT) ?_; with_reducible refine hK _ _ ?_; clear hK K'; repeat (first | (with_reducible refine wpKs ?_) | (with_reducible refine wpKb ?_) | (with_reducible refine wpKbn ?_) | (with_reducible refine wpKk ?_) | (refine wpKt rfl ?_) | (refine wpKf rfl ?_) | (with_reducible refine wpKr ?_) | ((with_reducible refine wpKd ?_ ?_); kernel_rfl) | (with_reducible refine wpKn ?_) | (with_reducible refine seqKn ?_) | (with_reducible refine drawKn ?_) | (first | refine seqKs rfl rfl rfl rfl ?_ | refine seqKu rfl rfl rfl rfl ?_ | refine drawKs rfl rfl rfl rfl ?_ | refine drawKu rfl rfl rfl rfl ?_) | ((first | refine seqK rfl rfl (fun K' hK => ?_) | refine seqKr rfl rfl rfl rfl (fun K' hK => ?_)); refine stp ?_; with_reducible refine hK _ _ ?_; clear hK K') | ((first | refine drawK rfl rfl (fun K' hK => ?_) | refine drawKr rfl rfl rfl rfl (fun K' hK => ?_)); refine stp ?_; with_reducible refine hK _ _ _ ?_; clear hK K') | (refine seqKz rfl rfl (fun K' hK => ?_); refine stp ?_; with_reducible refine hK _ ?_; clear hK K') | (refine drawKz rfl rfl (fun K' hK => ?_); refine stp ?_; with_reducible refine hK _ _ ?_; clear hK K'))
  cases q
  · repeat (first | (with_reducible refine wpKs ?_) | (with_reducible refine wpKb ?_) | (with_reducible refine wpKbn ?_) | (with_reducible refine wpKk ?_) | (refine wpKt rfl ?_) | (refine wpKf rfl ?_) | (with_reducible refine wpKr ?_) | ((with_reducible refine wpKd ?_ ?_); kernel_rfl) | (with_reducible refine wpKn ?_) | (with_reducible refine seqKn ?_) | (with_reducible refine drawKn ?_) | (first | refine seqKs rfl rfl rfl rfl ?_ | refine seqKu rfl rfl rfl rfl ?_ | refine drawKs rfl rfl rfl rfl ?_ | refine drawKu rfl rfl rfl rfl ?_) | ((first | refine seqK rfl rfl (fun K' hK => ?_) | refine seqKr rfl rfl rfl rfl (fun K' hK => ?_)); refine stp ?_; with_reducible refine hK _ _ ?_; clear hK K') | ((first | refine drawK rfl rfl (fun K' hK => ?_) | refine drawKr rfl rfl rfl rfl (fun K' hK => ?_)); refine stp ?_; with_reducible refine hK _ _ _ ?_; clear hK K') | (refine seqKz rfl rfl (fun K' hK => ?_); refine stp ?_; with_reducible refine hK _ ?_; clear hK K') | (refine drawKz rfl rfl (fun K' hK => ?_); refine stp ?_; with_reducible refine hK _ _ ?_; clear hK K'))
    refine stp ?_; try with_reducible exact True.intro
    rfl
  · obtain ⟨ha, hb, hc, hd⟩ := hx.1 rfl
    have h1 := mul_k ha hd
    have h2 := mul_k hb hc
    repeat (first | (with_reducible refine wpKs ?_) | (with_reducible refine wpKb ?_) | (with_reducible refine wpKbn ?_) | (with_reducible refine wpKk ?_) | (refine wpKt rfl ?_) | (refine wpKf rfl ?_) | (with_reducible refine wpKr ?_) | ((with_reducible refine wpKd ?_ ?_); kernel_rfl) | (with_reducible refine wpKn ?_) | (with_reducible refine seqKn ?_) | (with_reducible refine drawKn ?_) | (first | refine seqKs rfl rfl rfl rfl ?_ | refine seqKu rfl rfl rfl rfl ?_ | refine drawKs rfl rfl rfl rfl ?_ | refine drawKu rfl rfl rfl rfl ?_) | ((first | refine seqK rfl rfl (fun K' hK => ?_) | refine seqKr rfl rfl rfl rfl (fun K' hK => ?_)); refine stp ?_; with_reducible refine hK _ _ ?_; clear hK K') | ((first | refine drawK rfl rfl (fun K' hK => ?_) | refine drawKr rfl rfl rfl rfl (fun K' hK => ?_)); refine stp ?_; with_reducible refine hK _ _ _ ?_; clear hK K') | (refine seqKz rfl rfl (fun K' hK => ?_); refine stp ?_; with_reducible refine hK _ ?_; clear hK K') | (refine drawKz rfl rfl (fun K' hK => ?_); refine stp ?_; with_reducible refine hK _ _ ?_; clear hK K'))
    refine stp ?_; try with_reducible exact True.intro
    rfl
theorem IsMatrixS (m : Mx) : ConS Tryd.prog 27 [mxV m] (.b (isM m)) := by
  obtain ⟨a, b, c, d⟩ := m
  have w := l11Fits [a, b, c, d] (by simp)
  have hx := @sml4 a b c d
  unfold isM
  dsimp only [mxV]
  generalize [a, b, c, d].all sml = q at *
  refine conS_of hmix hTab Tryd.func27 rfl rfl (by kernel_rfl) (by show 1 ≤ Tryd.f27.ntmps; decide) rfl ?_
  repeat (first | (with_reducible refine wpKs ?_) | (with_reducible refine wpKb ?_) | (with_reducible refine wpKbn ?_) | (with_reducible refine wpKk ?_) | (refine wpKt rfl ?_) | (refine wpKf rfl ?_) | (with_reducible refine wpKr ?_) | ((with_reducible refine wpKd ?_ ?_); kernel_rfl) | (with_reducible refine wpKn ?_) | (with_reducible refine seqKn ?_) | (with_reducible refine drawKn ?_) | (first | refine seqKs rfl rfl rfl rfl ?_ | refine seqKu rfl rfl rfl rfl ?_ | refine drawKs rfl rfl rfl rfl ?_ | refine drawKu rfl rfl rfl rfl ?_) | ((first | refine seqK rfl rfl (fun K' hK => ?_) | refine seqKr rfl rfl rfl rfl (fun K' hK => ?_)); refine stp ?_; with_reducible refine hK _ _ ?_; clear hK K') | ((first | refine drawK rfl rfl (fun K' hK => ?_) | refine drawKr rfl rfl rfl rfl (fun K' hK => ?_)); refine stp ?_; with_reducible refine hK _ _ _ ?_; clear hK K') | (refine seqKz rfl rfl (fun K' hK => ?_); refine stp ?_; with_reducible refine hK _ ?_; clear hK K') | (refine drawKz rfl rfl (fun K' hK => ?_); refine stp ?_; with_reducible refine hK _ _ ?_; clear hK K'))
  (first | refine seqK rfl rfl (fun K' hK => ?_) | refine seqKr rfl rfl rfl rfl (fun K' hK => ?_)); (conv => whnf); refine useT (w.toT) ?_; with_reducible refine hK _ _ ?_; clear hK K'; repeat (first | (with_reducible refine wpKs ?_) | (with_reducible refine wpKb ?_) | (with_reducible refine wpKbn ?_) | (with_reducible refine wpKk ?_) | (refine wpKt rfl ?_) | (refine wpKf rfl ?_) | (with_reducible refine wpKr ?_) | ((with_reducible refine wpKd ?_ ?_); kernel_rfl) | (with_reducible refine wpKn ?_) | (with_reducible refine seqKn ?_) | (with_reducible refine drawKn ?_) | (first | refine seqKs rfl rfl rfl rfl ?_ | refine seqKu rfl rfl rfl rfl ?_ | refine drawKs rfl rfl rfl rfl ?_ | refine drawKu rfl rfl rfl rfl ?_) | ((first | refine seqK rfl rfl (fun K' hK => ?_) | refine seqKr rfl rfl rfl rfl (fun K' hK => ?_)); refine stp ?_; with_reducible refine hK _ _ ?_; clear hK K') | ((first | refine drawK rfl rfl (fun K' hK => ?_) | refine drawKr rfl rfl rfl rfl (fun K' hK => ?_)); refine stp ?_; with_reducible refine hK _ _ _ ?_; clear hK K') | (refine seqKz rfl rfl (fun K' hK => ?_); refine stp ?_; with_reducible refine hK _ ?_; clear hK K') | (refine drawKz rfl rfl (fun K' hK => ?_); refine stp ?_; with_reducible refine hK _ _ ?_; clear hK K'))
  cases q
  · repeat (first | (with_reducible refine wpKs ?_) | (with_reducible refine wpKb ?_) | (with_reducible refine wpKbn ?_) | (with_reducible refine wpKk ?_) | (refine wpKt rfl ?_) | (refine wpKf rfl ?_) | (with_reducible refine wpKr ?_) | ((with_reducible refine wpKd ?_ ?_); kernel_rfl) | (with_reducible refine wpKn ?_) | (with_reducible refine seqKn ?_) | (with_reducible refine drawKn ?_) | (first | refine seqKs rfl rfl rfl rfl ?_ | refine seqKu rfl rfl rfl rfl ?_ | refine drawKs rfl rfl rfl rfl ?_ | refine drawKu rfl rfl rfl rfl ?_) | ((first | refine seqK rfl rfl (fun K' hK => ?_) | refine seqKr rfl rfl rfl rfl (fun K' hK => ?_)); refine stp ?_; with_reducible refine hK _ _ ?_; clear hK K') | ((first | refine drawK rfl rfl (fun K' hK => ?_) | refine drawKr rfl rfl rfl rfl (fun K' hK => ?_)); refine stp ?_; with_reducible refine hK _ _ _ ?_; clear hK K') | (refine seqKz rfl rfl (fun K' hK => ?_); refine stp ?_; with_reducible refine hK _ ?_; clear hK K') | (refine drawKz rfl rfl (fun K' hK => ?_); refine stp ?_; with_reducible refine hK _ _ ?_; clear hK K'))
    refine stp ?_; try with_reducible exact True.intro
    rfl
  · obtain ⟨ha, hb, hc, hd⟩ := hx.1 rfl
    have h1 := mul_k ha hd
    have h2 := mul_k hb hc
    repeat (first | (with_reducible refine wpKs ?_) | (with_reducible refine wpKb ?_) | (with_reducible refine wpKbn ?_) | (with_reducible refine wpKk ?_) | (refine wpKt rfl ?_) | (refine wpKf rfl ?_) | (with_reducible refine wpKr ?_) | ((with_reducible refine wpKd ?_ ?_); kernel_rfl) | (with_reducible refine wpKn ?_) | (with_reducible refine seqKn ?_) | (with_reducible refine drawKn ?_) | (first | refine seqKs rfl rfl rfl rfl ?_ | refine seqKu rfl rfl rfl rfl ?_ | refine drawKs rfl rfl rfl rfl ?_ | refine drawKu rfl rfl rfl rfl ?_) | ((first | refine seqK rfl rfl (fun K' hK => ?_) | refine seqKr rfl rfl rfl rfl (fun K' hK => ?_)); refine stp ?_; with_reducible refine hK _ _ ?_; clear hK K') | ((first | refine drawK rfl rfl (fun K' hK => ?_) | refine drawKr rfl rfl rfl rfl (fun K' hK => ?_)); refine stp ?_; with_reducible refine hK _ _ _ ?_; clear hK K') | (refine seqKz rfl rfl (fun K' hK => ?_); refine stp ?_; with_reducible refine hK _ ?_; clear hK K') | (refine drawKz rfl rfl (fun K' hK => ?_); refine stp ?_; with_reducible refine hK _ _ ?_; clear hK K'))
    refine stp ?_; try with_reducible exact True.intro
    rfl
end Go.Proofs.YtffiddkignmobaaDoorTv
end
section
open Go Go.Proofs.YtffiddkignmobaaDoorVe Go.Proofs.YtffiddkignmobaaDoorTv Go.Proofs
namespace Go.Proofs.YtffiddkignmobaaDoorTv
set_option maxRecDepth 8000
set_option maxHeartbeats 2000000
def kId : ByteArray := ⟨#[105, 100, 101, 110, 116, 105, 116, 121]⟩
def kPe : ByteArray := ⟨#[112, 101, 114, 105, 111, 100, 105, 99]⟩
def kTw : ByteArray := ⟨#[116, 119, 105, 115, 116]⟩
def kSt : ByteArray := ⟨#[115, 116, 114, 101, 116, 99, 104]⟩
def trM (m : Mx) : Int := m.1 + m.2.2.2
def kinM (m : Mx) : ByteArray := if isM m = false then ⟨#[]⟩ else if m.2.1 = 0 ∧ m.2.2.1 = 0 then kId else if -1 ≤ trM m ∧ trM m ≤ 1 then kPe else if trM m = 2 ∨ trM m = -2 then kTw else kSt
theorem oneI : ConS Tryd.prog 112 [] (mxV (1, 0, 0, 1)) := by
  refine conS_of hmix hTab Tryd.func112 rfl rfl (by kernel_rfl) (by show 0 ≤ Tryd.f112.ntmps; decide) rfl ?_
  refine stp ?_; try with_reducible exact True.intro
  rfl
theorem unit_eq {a d : Int} (h : a * d = 1) : (a = 1 ∧ d = 1) ∨ (a = -1 ∧ d = -1) := by
  have h1 : a.natAbs * d.natAbs = 1 := by rw [← Int.natAbs_mul, h]; rfl
  have h2 := Nat.eq_one_of_mul_eq_one_right h1
  have h3 := Nat.eq_one_of_mul_eq_one_left h1
  rcases (show a = 1 ∨ a = -1 by omega) with rfl | rfl
  · left; omega
  · right; omega
theorem mxE {a b c d x y z w : Int} : (a == x && (b == y && (c == z && (d == w && true)))) = decide (a = x ∧ b = y ∧ c = z ∧ d = w) := by
  rw [Bool.eq_iff_iff]; simp
theorem isId {a b c d : Int} (hdet : a * d - b * c = 1) : (b = 0 ∧ c = 0) ↔ (a = 1 ∧ b = 0 ∧ c = 0 ∧ d = 1) ∨ (a = -1 ∧ b = 0 ∧ c = 0 ∧ d = -1) := by
  constructor
  · rintro ⟨rfl, rfl⟩
    rcases unit_eq (show a * d = 1 by omega) with ⟨rfl, rfl⟩ | ⟨rfl, rfl⟩
    · exact .inl ⟨rfl, rfl, rfl, rfl⟩
    · exact .inr ⟨rfl, rfl, rfl, rfl⟩
  · rintro (⟨_, h1, h2, _⟩ | ⟨_, h1, h2, _⟩) <;> exact ⟨h1, h2⟩
theorem KindOfI (m : Mx) : ConS Tryd.prog 40 [mxV m] (.s (kinM m)) := by
  obtain ⟨a, b, c, d⟩ := m
  have w := IsMatrixI (a, b, c, d)
  unfold kinM trM
  refine conS_of hmix hTab Tryd.func40 rfl rfl (by kernel_rfl) (by show 1 ≤ Tryd.f40.ntmps; decide) rfl ?_
  dsimp only [mxV] at w ⊢
  cases hm : isM (a, b, c, d) with
  | false =>
    rw [hm] at w
    refine stp ?_; try with_reducible exact True.intro
    refine OrW.wrap ?_
    refine stp ?_; try with_reducible exact True.intro
    refine useT w.toT ?_ ⟨⟨rfl, rfl, rfl, rfl, trivial⟩, trivial⟩
    refine stp ?_; try with_reducible exact True.intro
    rfl
  | true =>
    obtain ⟨⟨ha, hb, hc, hd⟩, hdet⟩ := isM_iff.1 hm
    have w1 := within (a + d) (-1) 1
    have hid := isId hdet
    rw [hm] at w
    rw [if_neg (by decide)]
    refine stp ?_; try with_reducible exact True.intro
    refine useT w.toT ?_ ⟨⟨rfl, rfl, rfl, rfl, trivial⟩, trivial⟩
    refine stp ?_; try with_reducible exact True.intro
    refine .inl ⟨_, _, oneI, by repeat (first | exact trivial | refine ⟨by first | exact rfl | exact trivial | exact ⟨_, rfl, rfl⟩ | exact ⟨_, _, rfl, by first | (simp; done) | (simp; omega), by first | (simp; done) | (simp [List.take_of_length_le]; done) | (rw [List.drop_zero]; exact List.take_of_length_le (by first | omega | (simp; omega))) | (simp [List.take_of_length_le]; omega)⟩ | exact ⟨_, rfl, by first | (simp; done) | (simp; omega), by first | (simp; done) | (simp [List.take_of_length_le]; done) | (rw [List.drop_zero]; exact List.take_of_length_le (by first | omega | (simp; omega))) | (simp [List.take_of_length_le]; omega)⟩, ?_⟩), ?_⟩; refine stp ?_; try with_reducible exact True.intro
    rw [mxE]
    refine Br.mk (fun h1 => ?_) (fun h1 => ?_) <;> simp [-Int.ofNat_toNat] at h1
    · rw [if_pos (hid.2 (.inl h1))]
      refine stp ?_; try with_reducible exact True.intro
      rfl
    · refine stp ?_; try with_reducible exact True.intro
      rw [mxE]
      refine Br.mk (fun h2 => ?_) (fun h2 => ?_) <;> simp [-Int.ofNat_toNat] at h2
      · rw [if_pos (hid.2 (.inr h2))]
        refine stp ?_; try with_reducible exact True.intro
        rfl
      · rw [if_neg (fun h => (hid.1 h).elim (fun k => h1 k.1 k.2.1 k.2.2.1 k.2.2.2) (fun k => h2 k.1 k.2.1 k.2.2.1 k.2.2.2))]
        refine stp ?_; try with_reducible exact True.intro
        refine useT (w1.toT) ?_; try with_reducible exact True.intro
        refine Br.mk (fun h3 => ?_) (fun h3 => ?_) <;> simp [-Int.ofNat_toNat] at h3
        · rw [if_pos (by omega)]
          refine stp ?_; try with_reducible exact True.intro
          rfl
        · rw [if_neg (by omega)]
          refine stp ?_; try with_reducible exact True.intro
          refine Br.mk (fun h4 => ?_) (fun h4 => ?_) <;> simp [-Int.ofNat_toNat] at h4
          · rw [if_pos (by omega)]
            refine stp ?_; try with_reducible exact True.intro
            rfl
          · refine stp ?_; try with_reducible exact True.intro
            refine Br.mk (fun h5 => ?_) (fun h5 => ?_) <;> simp [-Int.ofNat_toNat] at h5
            · rw [if_pos (by omega)]
              refine stp ?_; try with_reducible exact True.intro
              rfl
            · rw [if_neg (by omega)]
              refine stp ?_; try with_reducible exact True.intro
              rfl
theorem KindOfS (m : Mx) : ConS Tryd.prog 32 [mxV m] (.s (kinM m)) := by
  obtain ⟨a, b, c, d⟩ := m
  have w := IsMatrixS (a, b, c, d)
  unfold kinM trM
  refine conS_of hmix hTab Tryd.func32 rfl rfl (by kernel_rfl) (by show 1 ≤ Tryd.f32.ntmps; decide) rfl ?_
  dsimp only [mxV] at w ⊢
  cases hm : isM (a, b, c, d) with
  | false =>
    rw [hm] at w
    refine stp ?_; try with_reducible exact True.intro
    refine useT w.toT ?_ ⟨⟨rfl, rfl, rfl, rfl, trivial⟩, trivial⟩
    refine stp ?_; try with_reducible exact True.intro
    rfl
  | true =>
    obtain ⟨⟨ha, hb, hc, hd⟩, hdet⟩ := isM_iff.1 hm
    have w1 := l1In (a + d) (-1) 1
    have w2 := l1In (a + d) (-2) 2
    rw [hm] at w
    rw [if_neg (by decide)]
    refine stp ?_; try with_reducible exact True.intro
    refine useT w.toT ?_ ⟨⟨rfl, rfl, rfl, rfl, trivial⟩, trivial⟩
    refine stp ?_; try with_reducible exact True.intro
    refine Br.mk (fun h1 => ?_) (fun h1 => ?_) <;> simp [-Int.ofNat_toNat] at h1
    · refine stp ?_; try with_reducible exact True.intro
      refine Br.mk (fun h2 => ?_) (fun h2 => ?_) <;> simp [-Int.ofNat_toNat] at h2
      · rw [if_pos ⟨h1, h2⟩]
        refine stp ?_; try with_reducible exact True.intro
        rfl
      · rw [if_neg (fun h => h2 h.2)]
        refine stp ?_; try with_reducible exact True.intro
        refine useT (w1.toT) ?_; try with_reducible exact True.intro
        refine Br.mk (fun h3 => ?_) (fun h3 => ?_) <;> simp [-Int.ofNat_toNat] at h3
        · rw [if_pos (by omega)]
          refine stp ?_; try with_reducible exact True.intro
          rfl
        · rw [if_neg (by omega)]
          refine stp ?_; try with_reducible exact True.intro
          refine useT (w2.toT) ?_; try with_reducible exact True.intro
          refine Br.mk (fun h4 => ?_) (fun h4 => ?_) <;> simp [-Int.ofNat_toNat] at h4
          · rw [if_pos (by omega)]
            refine stp ?_; try with_reducible exact True.intro
            rfl
          · rw [if_neg (by omega)]
            refine stp ?_; try with_reducible exact True.intro
            rfl
    · rw [if_neg (fun h => h1 h.1)]
      refine stp ?_; try with_reducible exact True.intro
      refine useT (w1.toT) ?_; try with_reducible exact True.intro
      refine Br.mk (fun h3 => ?_) (fun h3 => ?_) <;> simp [-Int.ofNat_toNat] at h3
      · rw [if_pos (by omega)]
        refine stp ?_; try with_reducible exact True.intro
        rfl
      · rw [if_neg (by omega)]
        refine stp ?_; try with_reducible exact True.intro
        refine useT (w2.toT) ?_; try with_reducible exact True.intro
        refine Br.mk (fun h4 => ?_) (fun h4 => ?_) <;> simp [-Int.ofNat_toNat] at h4
        · rw [if_pos (by omega)]
          refine stp ?_; try with_reducible exact True.intro
          rfl
        · rw [if_neg (by omega)]
          refine stp ?_; try with_reducible exact True.intro
          rfl
theorem TraceOfI (m : Mx) : ConS Tryd.prog 39 [mxV m] (.i (if isM m = true then trM m else 0)) := by
  obtain ⟨a, b, c, d⟩ := m
  have w := IsMatrixI (a, b, c, d)
  unfold trM
  refine conS_of hmix hTab Tryd.func39 rfl rfl (by kernel_rfl) (by show 1 ≤ Tryd.f39.ntmps; decide) rfl ?_
  dsimp only [mxV] at w ⊢
  cases hm : isM (a, b, c, d) with
  | false =>
    rw [hm] at w
    refine stp ?_; try with_reducible exact True.intro
    refine useT w.toT ?_ ⟨⟨rfl, rfl, rfl, rfl, trivial⟩, trivial⟩
    refine stp ?_; try with_reducible exact True.intro
    rfl
  | true =>
    obtain ⟨⟨ha, hb, hc, hd⟩, hdet⟩ := isM_iff.1 hm
    rw [hm] at w
    refine stp ?_; try with_reducible exact True.intro
    refine useT w.toT ?_ ⟨⟨rfl, rfl, rfl, rfl, trivial⟩, trivial⟩
    refine stp ?_; try with_reducible exact True.intro
    rfl
theorem TraceOfS (m : Mx) : ConS Tryd.prog 31 [mxV m] (.i (if isM m = true then trM m else 0)) := by
  obtain ⟨a, b, c, d⟩ := m
  have w := IsMatrixS (a, b, c, d)
  unfold trM
  refine conS_of hmix hTab Tryd.func31 rfl rfl (by kernel_rfl) (by show 1 ≤ Tryd.f31.ntmps; decide) rfl ?_
  dsimp only [mxV] at w ⊢
  cases hm : isM (a, b, c, d) with
  | false =>
    rw [hm] at w
    refine stp ?_; try with_reducible exact True.intro
    refine useT w.toT ?_ ⟨⟨rfl, rfl, rfl, rfl, trivial⟩, trivial⟩
    refine stp ?_; try with_reducible exact True.intro
    rfl
  | true =>
    obtain ⟨⟨ha, hb, hc, hd⟩, hdet⟩ := isM_iff.1 hm
    rw [hm] at w
    refine stp ?_; try with_reducible exact True.intro
    refine useT w.toT ?_ ⟨⟨rfl, rfl, rfl, rfl, trivial⟩, trivial⟩
    refine stp ?_; try with_reducible exact True.intro
    rfl
end Go.Proofs.YtffiddkignmobaaDoorTv
end
section
namespace Go.Proofs
open Go.Shelf
def Tryd.lays156_ren : Go.Shelf.Ren := ⟨fun | 156 => 110 | 165 => 207 | 166 => 208 | 169 => 209 | 240 => 238 | 241 => 239 | 276 => 245 | 277 => 246 | n => n, fun | 31 => 52 | 9 => 9 | 3 => 3 | 4 => 4 | 0 => 0 | 20 => 20 | 72 => 124 | 76 => 128 | 70 => 122 | 37 => 77 | 75 => 127 | 127 => 140 | 164 => 142 | 5 => 5 | 80 => 130 | n => n, fun | n => n⟩
theorem Tryd.lays156 : Go.Proofs.Lays.n156 Tryd.prog Tryd.lays156_ren := {
  mixed := by kernel_rfl
  f156 := Tryd.func110.trans (congrArg some (by kernel_rfl))
  f165 := Tryd.func207.trans (congrArg some (by kernel_rfl))
  f166 := Tryd.func208.trans (congrArg some (by kernel_rfl))
  f169 := Tryd.func209.trans (congrArg some (by kernel_rfl))
  f240 := Tryd.func238.trans (congrArg some (by kernel_rfl))
  f241 := Tryd.func239.trans (congrArg some (by kernel_rfl))
  f276 := Tryd.func245.trans (congrArg some (by kernel_rfl))
  f277 := Tryd.func246.trans (congrArg some (by kernel_rfl))
  t0 := Tryd.underlying0
  a0 := Tryd.isAgg0
  z0 := Tryd.sizeOf0
  v0 := Tryd.zeroValue0
  t3 := Tryd.underlying3
  a3 := Tryd.isAgg3
  z3 := Tryd.sizeOf3
  v3 := Tryd.zeroValue3
  t4 := Tryd.underlying4
  a4 := Tryd.isAgg4
  z4 := Tryd.sizeOf4
  v4 := Tryd.zeroValue4
  t9 := Tryd.underlying9
  a9 := Tryd.isAgg9
  z9 := Tryd.sizeOf9
  v9 := Tryd.zeroValue9
  t20 := Tryd.underlying20
  a20 := Tryd.isAgg20
  z20 := Tryd.sizeOf20
  v20 := Tryd.zeroValue20
  t31 := Tryd.underlying52
  a31 := Tryd.isAgg52
  z31 := Tryd.sizeOf52
  v31 := Tryd.zeroValue52
  t37 := Tryd.underlying77
  a37 := Tryd.isAgg77
  z37 := Tryd.sizeOf77
  v37 := Tryd.zeroValue77
  t70 := Tryd.underlying122
  a70 := Tryd.isAgg122
  z70 := Tryd.sizeOf122
  v70 := Tryd.zeroValue122
  t72 := Tryd.underlying124
  a72 := Tryd.isAgg124
  z72 := Tryd.sizeOf124
  v72 := Tryd.zeroValue124
  t75 := Tryd.underlying127
  a75 := Tryd.isAgg127
  z75 := Tryd.sizeOf127
  v75 := Tryd.zeroValue127
  t76 := Tryd.underlying128
  a76 := Tryd.isAgg128
  z76 := Tryd.sizeOf128
  v76 := Tryd.zeroValue128
  t127 := Tryd.underlying140
  a127 := Tryd.isAgg140
  z127 := Tryd.sizeOf140
  v127 := Tryd.zeroValue140
  t164 := Tryd.underlying142
  a164 := Tryd.isAgg142
  z164 := Tryd.sizeOf142
  v164 := Tryd.zeroValue142 }
theorem Tryd.Builder_Extra_156 : Builder.Extra Tryd.prog Tryd.lays156_ren := {
  sizeBuilder := by kernel_rfl
  liesBuilder := by kernel_rfl
  t5 := Tryd.underlying5
  a5 := Tryd.isAgg5
  z5 := Tryd.sizeOf5
  v5 := Tryd.zeroValue5
  infoByte := by kernel_rfl
  cellsByte := by kernel_rfl
  sizeByte := by kernel_rfl
  neB5 := by decide }
open Go.RowKit in
/-- No element: the empty string; the world is as it was. (Whatever the slice's address and capacity: a nil slice too.) (LAID: no walk: one application.) -/
theorem Tryd.strings_Join_none (a : Option Addr) (c : Nat) (sep : ByteArray) (w : World) :
    Calls Tryd.prog 110 #[.slice a 0 c, .string sep] w fun e w' => e = .returned (.string ⟨#[]⟩) ∧ w' = w := Any.strings_Join_none Tryd.lays156 Tryd.Builder_Extra_156 a c sep w
open Go.RowKit in
/-- strings.Join: "Join concatenates the elements of its first argument to create a single string. The separator string sep is placed between elements in the resulting string.": HOWEVER MANY ELEMENTS. Below the heap's end the world is as it was. (LAID: no walk: one application.) -/
theorem Tryd.strings_Join (bk o c : Nat) (xs : List ByteArray) (sep : ByteArray) (w : World) (hcells : ∀ (j : Nat) x, xs[j]? = some x → w.cell? ⟨bk, o + j, none⟩ = some (.string x)) (hbk : bk < w.heap.size) (hN : xs.length ≤ 140737488355328) (hcap : xs.length ≤ c) (hlen : (Lib.join (xs.map (·.data.toList)) sep.data.toList).length ≤ 140737488355328) :
    Calls Tryd.prog 110 #[.slice (some ⟨bk, o, none⟩) xs.length c, .string sep] w fun e w' => e = .returned (.string ⟨(Lib.join (xs.map (·.data.toList)) sep.data.toList).toArray⟩) ∧ Below w.heap.size w w' := Any.strings_Join Tryd.lays156 Tryd.Builder_Extra_156 bk o c xs sep w hcells hbk hN hcap hlen
def Tryd.laysM171_ren : Go.Shelf.Ren := ⟨fun | 171 => 111 | 243 => 210 | 246 => 240 | 283 => 247 | 284 => 248 | 285 => 249 | 286 => 250 | 129 => 252 | 317 => 251 | 318 => 253 | 319 => 254 | 320 => 255 | 337 => 256 | 338 => 257 | n => n, fun | 3 => 3 | 9 => 9 | 2 => 2 | 4 => 4 | 171 => 145 | 0 => 0 | 53 => 146 | 37 => 77 | 5 => 5 | 173 => 149 | 212 => 151 | 51 => 152 | 20 => 20 | 213 => 153 | 46 => 114 | 232 => 156 | 233 => 157 | n => n, fun | 17 => 1 | 18 => 2 | 19 => 3 | n => n⟩
theorem Tryd.laysM171 : Go.Proofs.LaysM.n171 Tryd.prog Tryd.laysM171_ren := {
  mixed := by kernel_rfl
  f129 := Tryd.func252.trans (congrArg some (by kernel_rfl))
  f171 := Tryd.func111.trans (congrArg some (by kernel_rfl))
  f243 := Tryd.func210.trans (congrArg some (by kernel_rfl))
  f246 := Tryd.func240.trans (congrArg some (by kernel_rfl))
  f283 := Tryd.func247.trans (congrArg some (by kernel_rfl))
  f284 := Tryd.func248.trans (congrArg some (by kernel_rfl))
  f285 := Tryd.func249.trans (congrArg some (by kernel_rfl))
  f286 := Tryd.func250.trans (congrArg some (by kernel_rfl))
  f317 := Tryd.func251.trans (congrArg some (by kernel_rfl))
  f318 := Tryd.func253.trans (congrArg some (by kernel_rfl))
  f319 := Tryd.func254.trans (congrArg some (by kernel_rfl))
  f320 := Tryd.func255.trans (congrArg some (by kernel_rfl))
  f337 := Tryd.func256.trans (congrArg some (by kernel_rfl))
  f338 := Tryd.func257.trans (congrArg some (by kernel_rfl))
  t0 := Tryd.underlying0
  a0 := Tryd.isAgg0
  z0 := Tryd.sizeOf0
  v0 := Tryd.zeroValue0
  t2 := Tryd.underlying2
  a2 := Tryd.isAgg2
  z2 := Tryd.sizeOf2
  v2 := Tryd.zeroValue2
  t3 := Tryd.underlying3
  a3 := Tryd.isAgg3
  z3 := Tryd.sizeOf3
  v3 := Tryd.zeroValue3
  t4 := Tryd.underlying4
  a4 := Tryd.isAgg4
  z4 := Tryd.sizeOf4
  v4 := Tryd.zeroValue4
  t5 := Tryd.underlying5
  a5 := Tryd.isAgg5
  z5 := Tryd.sizeOf5
  v5 := Tryd.zeroValue5
  t9 := Tryd.underlying9
  a9 := Tryd.isAgg9
  z9 := Tryd.sizeOf9
  v9 := Tryd.zeroValue9
  t20 := Tryd.underlying20
  a20 := Tryd.isAgg20
  z20 := Tryd.sizeOf20
  v20 := Tryd.zeroValue20
  t37 := Tryd.underlying77
  a37 := Tryd.isAgg77
  z37 := Tryd.sizeOf77
  v37 := Tryd.zeroValue77
  t46 := Tryd.underlying114
  a46 := Tryd.isAgg114
  z46 := Tryd.sizeOf114
  v46 := Tryd.zeroValue114
  t51 := Tryd.underlying152
  a51 := Tryd.isAgg152
  z51 := Tryd.sizeOf152
  v51 := Tryd.zeroValue152
  t53 := Tryd.underlying146
  a53 := Tryd.isAgg146
  z53 := Tryd.sizeOf146
  v53 := Tryd.zeroValue146
  t171 := Tryd.underlying145
  a171 := Tryd.isAgg145
  z171 := Tryd.sizeOf145
  v171 := Tryd.zeroValue145
  t173 := Tryd.underlying149
  a173 := Tryd.isAgg149
  z173 := Tryd.sizeOf149
  v173 := Tryd.zeroValue149
  t212 := Tryd.underlying151
  a212 := Tryd.isAgg151
  z212 := Tryd.sizeOf151
  v212 := Tryd.zeroValue151
  t213 := Tryd.underlying153
  a213 := Tryd.isAgg153
  z213 := Tryd.sizeOf153
  t232 := Tryd.underlying156
  a232 := Tryd.isAgg156
  z232 := Tryd.sizeOf156
  v232 := Tryd.zeroValue156
  t233 := Tryd.underlying157
  a233 := Tryd.isAgg157
  z233 := Tryd.sizeOf157
  v233 := Tryd.zeroValue157
  g17 := by kernel_rfl
  g18 := by kernel_rfl
  g19 := by kernel_rfl
  i0 := by kernel_rfl
  i2 := by kernel_rfl
  i3 := by kernel_rfl
  i4 := by kernel_rfl
  i5 := by kernel_rfl
  i9 := by kernel_rfl
  i20 := by kernel_rfl
  i37 := by kernel_rfl
  i46 := by kernel_rfl
  i51 := by kernel_rfl
  i53 := by kernel_rfl
  i171 := by kernel_rfl
  i173 := by kernel_rfl
  i212 := by kernel_rfl
  i232 := by kernel_rfl
  i233 := by kernel_rfl
  m17 := by kernel_rfl
  m18 := by kernel_rfl
  m19 := by kernel_rfl }
open Go.RowKit Go.Sort Go.Lib in
/-- strconv.Itoa: "Itoa is equivalent to FormatInt(int64(i), 10).": i's DECIMAL NUMERAL ('Lib.itoa': a '-' where i is negative, then the digits), FOR EVERY int. The world behind the call: the world before it, new blocks behind the heap (the library's 'var a [24]byte'), draws. (LAID: no walk: one application.) -/
theorem Tryd.strconv_Itoa (n : Int) (h0 : -9223372036854775808 ≤ n) (h1 : n ≤ 9223372036854775807) (w : World) (htab : Lib.TabIs Tryd.prog w "internal/strconv.uint64pow10" .u64 Lib.pow10Tab) :
    Calls Tryd.prog 111 #[.int .i64 n] w fun e w' => e = .returned (.string ⟨(Lib.itoa n).toArray⟩) ∧ ∃ k os, w' = grow (w.drewN k) os := Any.strconv_Itoa Tryd.laysM171 n h0 h1 w htab
end Go.Proofs

open Go Go.Proofs.YtffiddkignmobaaDoorVe Go.Proofs.YtffiddkignmobaaDoorTv Go.Proofs
namespace Go.Proofs.YtffiddkignmobaaDoorTv
set_option maxRecDepth 8000
set_option maxHeartbeats 2000000
theorem tab_g : Tryd.prog.globalNamed "internal/strconv.uint64pow10" = some 1 := by kernel_rfl
theorem tab_is {w : World} (h : sideT w) : Lib.TabIs Tryd.prog w "internal/strconv.uint64pow10" .u64 Lib.pow10Tab := by
  unfold Lib.TabIs World.var?
  rw [tab_g]
  simp only [Option.bind_some]
  unfold sideT at h
  cases hh : w.heap[(1 : Nat)]? with
  | none => rw [hh] at h; exact h
  | some o => rw [hh] at h; cases o <;> exact h
def ito (n : Int) : ByteArray := ⟨(Lib.itoa n).toArray⟩
def joi (l : List ByteArray) (sep : ByteArray) : ByteArray := ⟨(Lib.join (l.map fun x => x.data.toList) sep.data.toList).toArray⟩
theorem Itoa (n : Int) (h0 : -9223372036854775808 ≤ n) (h1 : n ≤ 9223372036854775807) : ConS Tryd.prog 111 [.i n] (.s (ito n)) := by
  refine ⟨rfl, enters_of Tryd.func111 rfl rfl, fun m s avs _ _ _ hv => ?_⟩
  cases hv with
  | cons _ a _ ar ha hr =>
    cases hr
    obtain rfl := ha.int_inv
    refine callV_of_lib (enters_of Tryd.func111 rfl rfl) fun x vals hR hH hv => ?_
    cases hv with
    | cons _ _ v vs k1 k2 =>
      cases k2
      cases k1
      refine ⟨_, fun y => .str (ito n), ?_⟩
      refine (Tryd.strconv_Itoa n h0 h1 x.w (tab_is hR.side)).mono fun e w' ⟨he, k, os, hw⟩ => ⟨he, ?_⟩
      subst hw
      exact ⟨rfl, rfl, rfl, by simp [Sort.grow], fun i hi => by simp [Sort.grow, Array.getElem?_append, hi]⟩
theorem strs_sh {G : Nat → Nat → Prop} {H : Heap} : ∀ {l : List ByteArray} {ch : List (List AV)}, All2 (fun x c => Sh G H .str x c) l ch → ch.flatten = l.map AV.str
  | [], [], _ => rfl
  | x :: l, c :: ch, h => by
    have h1 : c = [.str x] := h.1
    subst h1
    simp [strs_sh h.2]
  | [], _ :: _, h => h.elim
  | _ :: _, [], h => h.elim
theorem vrl_strs {x : Cx} : ∀ {l : List ByteArray} {vs : List Value}, VRL x (l.map AV.str) vs → vs = l.map Value.string
  | [], _, h => by cases h; rfl
  | y :: l, _, h => by
    cases h with
    | cons _ _ v vs h1 h2 => cases h1; rw [vrl_strs h2]; rfl
theorem JoinL (l : List ByteArray) (sep : ByteArray) (hl : (joi l sep).size ≤ 140737488355328) : ConS Tryd.prog 110 [.val (.list .str) l, .s sep] (.s (joi l sep)) := by
  refine ⟨rfl, enters_of Tryd.func110 rfl rfl, fun m s avs _ _ _ hv => ?_⟩
  cases hv with
  | cons _ a _ ar ha hr =>
    cases hr with
    | cons _ b _ bs hb hr =>
      cases hr
      obtain rfl := hb.str_inv
      cases ha with
      | val _ _ _ hsh =>
        obtain ⟨a', ch, ea, hsl, hlen, hrow, hG, hmost, hall⟩ := hsh
        injection ea with ea _
        subst ea
        refine callV_of_lib (enters_of Tryd.func110 rfl rfl) fun x vals hR hH hv => ?_
        cases hv with
        | cons _ _ v vs k1 k2 =>
          cases k2 with
          | cons _ _ v2 vs2 k3 k4 =>
            cases k4
            cases k3
            have hc := strs_sh hall
            rw [hc] at hrow
            obtain ⟨A, cap, rfl, hcap, hcells⟩ := row_cells hR (xs := l.map AV.str) (by rw [hH]; exact hrow) hlen (by simp) (fun b hb => by rw [hb] at hsl; simp [isSl] at hsl) k1
            refine ⟨_, fun y => .str (joi l sep), ?_⟩
            by_cases hz : l = []
            · subst hz
              refine (Tryd.strings_Join_none A cap sep x.w).mono fun e w' ⟨he, hw⟩ => ⟨he, ?_⟩
              subst hw
              exact Go.RowKit.Below.refl _ _
            · obtain ⟨b, o, vs, rfl, hbs, hvl, hcell⟩ := hcells (fun h => hz (List.length_eq_zero_iff.1 h))
              obtain rfl := vrl_strs hvl
              refine (Tryd.strings_Join b o cap l sep x.w (fun j y hy => hcell j _ (by rw [List.getElem?_map, hy]; rfl)) hbs (by simp only [huge] at hmost; omega) hcap (by simpa [joi, ByteArray.size] using hl)).mono fun e w' ⟨he, hw⟩ => ⟨he, hw⟩
end Go.Proofs.YtffiddkignmobaaDoorTv
end
section
open Go Go.Proofs.YtffiddkignmobaaDoorVe Go.Proofs.YtffiddkignmobaaDoorTv Go.Proofs
namespace Go.Proofs.YtffiddkignmobaaDoorTv
set_option maxRecDepth 8000
set_option maxHeartbeats 2000000
theorem FormatIntI (n : Int) (h0 : -9223372036854775808 ≤ n) (h1 : n ≤ 9223372036854775807) : ConS Tryd.prog 38 [.i n] (.s (ito n)) := by
  refine conS_of hmix hTab Tryd.func38 rfl rfl (by kernel_rfl) (by show 1 ≤ Tryd.f38.ntmps; decide) rfl ?_
  refine stp ?_; try with_reducible exact True.intro
  refine useT ((Itoa n h0 h1).toT) ?_; try with_reducible exact True.intro
theorem JoinI (l : List ByteArray) (sep : ByteArray) (hl : (joi l sep).size ≤ 140737488355328) : ConS Tryd.prog 37 [.val (.list .str) l, .s sep] (.s (joi l sep)) := by
  refine conS_of hmix hTab Tryd.func37 rfl rfl (by kernel_rfl) (by show 2 ≤ Tryd.f37.ntmps; decide) rfl ?_
  refine stp ?_; try with_reducible exact True.intro
  refine useT ((JoinL l sep hl).toT) ?_; try with_reducible exact True.intro
def dd (u : Nat) : List UInt8 := if u = 0 then [] else Lib.decDigits u
theorem dd_step {u : Nat} (h : u ≠ 0) : dd u = dd (u / 10) ++ [UInt8.ofNat (48 + u % 10)] := by
  unfold dd
  rw [if_neg h, Lib.decDigits]
  by_cases hu : u < 10
  · rw [dif_pos hu, if_pos (by omega), Nat.mod_eq_of_lt hu]; rfl
  · rw [dif_neg hu, if_neg (by omega)]
theorem ito_size (n : Int) (h0 : -9223372036854775808 ≤ n) (h1 : n ≤ 9223372036854775807) : (ito n).size ≤ 21 := by
  have := Lib.itoa_length_le n h0 h1
  simpa [ito, ByteArray.size] using this
theorem ito_zero : ito 0 = ⟨#[48]⟩ := by
  have : Lib.itoa 0 = [48] := by
    unfold Lib.itoa
    rw [if_neg (by omega)]
    show Lib.decDigits 0 = _
    rw [Lib.decDigits, dif_pos (by omega)]; rfl
  unfold ito
  rw [this]
theorem ito_dd {n : Int} (hz : n ≠ 0) : (if n < 0 then [45] else []) ++ dd n.natAbs = Lib.itoa n := by
  simp only [Lib.itoa, dd, if_neg (show ¬ n.natAbs = 0 by omega)]
  split
  · rfl
  · rw [show n.toNat = n.natAbs by omega]; rfl
theorem u8w {e : Int} (h0 : 0 ≤ e) (h1 : e ≤ 9) : IntKind.u8.wrap (48 + e) = 48 + e := by
  simp [IntKind.wrap, IntKind.signed, IntKind.bits]; omega
theorem ba_data (a b : ByteArray) : (a ++ b).data.toList = a.data.toList ++ b.data.toList := by
  rw [ByteArray.data_append]; simp
theorem ba_ext {a : ByteArray} {l : List UInt8} (h : a.data.toList = l) : a = ⟨l.toArray⟩ := by
  subst h; cases a; rfl
theorem dd_put {u : Nat} (hu : u ≠ 0) (o : ByteArray) {w : Int} (hw : w = 48 + ((u % 10 : Nat) : Int)) : dd (u / 10) ++ (strOfNums [w] ++ o).data.toList = dd u ++ o.data.toList := by
  rw [ba_data, dd_step hu]
  subst hw
  have e : ((48 : Int) + ((u % 10 : Nat) : Int)).toNat = 48 + u % 10 := by omega
  show _ ++ ([UInt8.ofNat ((48 : Int) + ((u % 10 : Nat) : Int)).toNat] ++ _) = _
  rw [e, List.append_assoc]
theorem FormatIntS (n : Int) (h0 : -9223372036854775808 ≤ n) (h1 : n ≤ 9223372036854775807) : ConS Tryd.prog 30 [.i n] (.s (ito n)) := by
  have hsz := ito_size n h0 h1
  refine conS_of hmix hTab Tryd.func30 rfl rfl (by kernel_rfl) (by show 1 ≤ Tryd.f30.ntmps; decide) rfl ?_
  refine stp ?_; try with_reducible exact True.intro
  refine Br.mk (fun hz => ?_) (fun hz => ?_) <;> simp [-Int.ofNat_toNat] at hz
  · subst hz
    refine stp ?_; try with_reducible exact True.intro
    rw [ito_zero]
  have hd := ito_dd hz
  refine stp ?_; try with_reducible exact True.intro
  refine ⟨Int × ByteArray, fun p => dd p.1.natAbs ++ p.2.data.toList = dd n.natAbs ∧ -9223372036854775808 ≤ p.1 ∧ p.1 ≤ 9223372036854775807, fun p => p.1.natAbs, fun p => [(0, .i p.1), (3, .b (decide (n < 0))), (4, .s p.2)], fun p => [], ⟨(n, ByteArray.empty), (fitK [] []), by show dd n.natAbs ++ [] = _; simp, h0, h1⟩, fun ⟨q, o⟩ ⟨hi, hq0, hq1⟩ => ?_⟩
  dsimp only at hi hq0 hq1 ⊢
  have hol : o.size ≤ 21 := by
    have h2 := congrArg List.length (show (if n < 0 then [45] else []) ++ (dd q.natAbs ++ o.data.toList) = Lib.itoa n by rw [hi]; exact hd)
    simp only [List.length_append, Array.length_toList] at h2
    have h3 := Lib.itoa_length_le n h0 h1
    show o.data.size ≤ 21
    omega
  have dn : (q.tmod 10).natAbs = q.natAbs % 10 := Int.natAbs_tmod q 10
  have dq : (q.tdiv 10).natAbs = q.natAbs / 10 := Int.natAbs_tdiv q 10
  obtain ⟨d, hdd⟩ : ∃ d, q.tmod 10 = d := ⟨_, rfl⟩
  obtain ⟨q2, hqq⟩ : ∃ q2, q.tdiv 10 = q2 := ⟨_, rfl⟩
  have hm0 : -9 ≤ q.tmod 10 := by rw [hdd] at dn ⊢; omega
  have hm1 : q.tmod 10 ≤ 9 := by rw [hdd] at dn ⊢; omega
  refine stp ?_; try with_reducible exact True.intro
  refine Br.mk (fun h2 => ?_) (fun h2 => ?_) <;> simp [-Int.ofNat_toNat] at h2
  · refine stp ?_; try with_reducible exact True.intro
    refine Br.mk (fun h3 => ?_) (fun h3 => ?_) <;> simp [-Int.ofNat_toNat] at h3
    · refine stp ?_; try with_reducible exact True.intro
      have hw : IntKind.u8.wrap (48 + (0 - q.tmod 10)) = 48 + (0 - q.tmod 10) := u8w (by omega) (by omega)
      refine ⟨(show (1 : Nat) + o.size ≤ 140737488355328 by omega), ?_⟩
      refine stp ?_; try with_reducible exact True.intro
      refine ⟨(q.tdiv 10, strOfNums [IntKind.u8.wrap (48 + (0 - q.tmod 10))] ++ o), (fitK [] []), ⟨?_, ?_, ?_⟩, ?_⟩
      · rw [hw]; dsimp only; rw [dq, dd_put (by omega) o (by omega)]; exact hi
      · dsimp only; rw [hqq] at dq ⊢; omega
      · dsimp only; rw [hqq] at dq ⊢; omega
      · dsimp only; rw [dq]; omega
    · refine stp ?_; try with_reducible exact True.intro
      have hw : IntKind.u8.wrap (48 + q.tmod 10) = 48 + q.tmod 10 := u8w (by omega) (by omega)
      refine ⟨(show (1 : Nat) + o.size ≤ 140737488355328 by omega), ?_⟩
      refine stp ?_; try with_reducible exact True.intro
      refine ⟨(q.tdiv 10, strOfNums [IntKind.u8.wrap (48 + q.tmod 10)] ++ o), (fitK [] []), ⟨?_, ?_, ?_⟩, ?_⟩
      · rw [hw]; dsimp only; rw [dq, dd_put (by omega) o (by omega)]; exact hi
      · dsimp only; rw [hqq] at dq ⊢; omega
      · dsimp only; rw [hqq] at dq ⊢; omega
      · dsimp only; rw [dq]; omega
  · have hq : q = 0 := by omega
    subst hq
    have ho : (if n < 0 then [45] else []) ++ o.data.toList = Lib.itoa n := by
      rw [← hd, ← hi]; rfl
    refine stp ?_; try with_reducible exact True.intro
    refine Br.mk (fun h3 => ?_) (fun h3 => ?_) <;> simp [-Int.ofNat_toNat] at h3
    · rw [if_pos h3] at ho
      refine stp ?_; try with_reducible exact True.intro
      refine ⟨(show (1 : Nat) + o.size ≤ 140737488355328 by omega), ?_⟩
      refine stp ?_; try with_reducible exact True.intro
      refine congrArg (fun x => V.s x) (ba_ext ?_)
      rw [ba_data]; exact ho
    · rw [if_neg (by omega)] at ho
      refine stp ?_; try with_reducible exact True.intro
      exact congrArg (fun x => V.s x) (ba_ext ho)
def jb (l : List ByteArray) (sep : ByteArray) : Nat → List Int
  | 0 => []
  | i + 1 => jb l sep i ++ (if 0 < i then bys sep else []) ++ bys (l.getD i ByteArray.empty)
theorem jb_len (l : List ByteArray) (sep : ByteArray) : ∀ i j, (jb l sep i).length ≤ (jb l sep (i + j)).length
  | i, 0 => Nat.le_refl _
  | i, j + 1 => by
    have := jb_len l sep i j
    rw [← Nat.add_assoc, jb]
    simp only [List.length_append]
    omega
theorem num_bys (s : ByteArray) : (bys s).map (fun n => UInt8.ofNat n.toNat) = s.data.toList := by
  simp only [bys, List.map_map]
  conv => rhs; rw [← List.map_id s.data.toList]
  apply List.map_congr_left
  intro a _
  simp
theorem jb_join (l : List ByteArray) (sep : ByteArray) : ∀ i, i ≤ l.length → (jb l sep i).map (fun n => UInt8.ofNat n.toNat) = Lib.join ((l.take i).map fun x => x.data.toList) sep.data.toList
  | 0, _ => rfl
  | i + 1, h => by
    have hi := jb_join l sep i (by omega)
    have hl : l[i]? = some (l.getD i ByteArray.empty) := by simp [List.getD, List.getElem?_eq_getElem (show i < l.length by omega)]
    rw [jb, List.map_append, List.map_append, hi, num_bys, List.take_add_one, hl]
    generalize l.getD i ByteArray.empty = y at *
    simp only [Option.toList, List.map_append, List.map_cons, List.map_nil]
    cases i with
    | zero => simp [Lib.join, List.intercalate]
    | succ i =>
      rw [if_pos (by omega), num_bys]
      have hne : (l.take (i + 1)).map (fun x => x.data.toList) ≠ [] := by
        intro h2
        have := congrArg List.length h2
        simp only [List.length_map, List.length_take, List.length_nil] at this
        omega
      generalize (l.take (i + 1)).map (fun x => x.data.toList) = m at *
      cases m with
      | nil => exact absurd rfl hne
      | cons a m => rw [List.cons_append, Lib.join_cons, Lib.join_cons]; simp [Lib.joinTail]
theorem jb_joi (l : List ByteArray) (sep : ByteArray) : strOfNums (jb l sep l.length) = joi l sep := by
  unfold strOfNums joi
  rw [jb_join l sep _ (Nat.le_refl _), List.take_length]
theorem jb_size (l : List ByteArray) (sep : ByteArray) : (jb l sep l.length).length = (joi l sep).size := by
  rw [← jb_joi]; simp [strOfNums, ByteArray.size]
theorem bys_len (s : ByteArray) : (bys s).length = s.size := by simp only [bys, List.length_map, Array.length_toList]; rfl
theorem joi_le (l : List ByteArray) (sep : ByteArray) {b : Nat} (h : ∀ x ∈ l, x.size ≤ b) : (joi l sep).size ≤ l.length * (b + sep.size) := by
  rw [← jb_size]
  have key : ∀ i, i ≤ l.length → (jb l sep i).length ≤ i * (b + sep.size) := by
    intro i
    induction i with
    | zero => intro _; simp [jb]
    | succ i ih =>
      intro hi
      have h1 := ih (by omega)
      have h2 : (l.getD i ByteArray.empty).size ≤ b := by
        simp only [List.getD, List.getElem?_eq_getElem (show i < l.length by omega), Option.getD_some]
        exact h _ (List.getElem_mem _)
      have e1 : (bys (l.getD i ByteArray.empty)).length = (l.getD i ByteArray.empty).size := bys_len _
      have e2 : (bys sep).length = sep.size := bys_len _
      rw [jb, Nat.add_mul]
      simp only [List.length_append]
      split <;> simp only [e2, List.length_nil] <;> omega
  exact key _ (Nat.le_refl _)
theorem JoinS (l : List ByteArray) (sep : ByteArray) (hl : (joi l sep).size ≤ 268435456) (hn : (l.length : Int) ≤ 1048576) : ConS Tryd.prog 73 [.val (.list .str) l, .s sep] (.s (joi l sep)) := by
  have hj : ∀ i, i ≤ l.length → (jb l sep i).length ≤ 268435456 := fun i hi => by
    have := jb_len l sep i (l.length - i)
    rw [show i + (l.length - i) = l.length by omega, jb_size] at this
    omega
  refine conS_of hmix hTab Tryd.func73 rfl rfl (by kernel_rfl) (by show 2 ≤ Tryd.f73.ntmps; decide) rfl ?_
  refine stp ?_; try with_reducible exact True.intro
  refine ⟨Nat, fun i => i ≤ l.length, fun i => l.length - i, fun i => [(0, .val (.list .str) l), (1, .s sep), (5, .own 0 0 (jb l sep i).length), (6, .i i)], fun i => [.arr (.int .u8) (jb l sep i) true], ⟨0, (fitK [] [0]), Nat.zero_le _⟩, fun i hi => ?_⟩
  dsimp only at hi ⊢
  have hx : i < l.length → (jb l sep i).length + (if 0 < i then bys sep else []).length + (bys (rdT .str l (i : Int))).length ≤ 268435456 := fun h => by
    have := hj (i + 1) h
    rw [jb, List.length_append, List.length_append] at this
    exact this
  refine stp ?_; try with_reducible exact True.intro
  refine Br.mk (fun h1 => ?_) (fun h1 => ?_) <;> simp [-Int.ofNat_toNat] at h1
  · have hx := hx (by omega)
    refine stp ?_; try with_reducible exact True.intro
    refine Br.mk (fun h2 => ?_) (fun h2 => ?_) <;> simp [-Int.ofNat_toNat] at h2
    · rw [if_pos (by omega)] at hx
      refine stp ?_; try with_reducible exact True.intro
      have hu : jb l sep (i + 1) = jb l sep i ++ bys sep ++ bys (rdT .str l (i : Int)) := by
        rw [jb, if_pos (by omega)]; rfl
      refine ⟨i + 1, ⟨.frz [], [2], ⟨rfl, rfl, ?_, rfl, trivial⟩, ⟨?_, trivial⟩, by decide, rfl, rfl, rfl⟩, by first | ((try dsimp only); omega) | (simp; omega), by first | ((try dsimp only); omega) | (simp; omega)⟩ <;> rw [hu]
      · show V.own 2 0 _ = V.own 2 0 _
        congr 1
        simp; omega
      · refine congrArg (fun x => some (Obj.arr (.int .u8) x true)) ?_
        simp only [List.drop_zero, List.take_length]
        rw [List.take_of_length_le (by simp)]
    · rw [if_neg (by omega)] at hx
      have hu : jb l sep (i + 1) = jb l sep i ++ bys (rdT .str l (i : Int)) := by
        rw [jb, if_neg (by omega), List.append_nil]; rfl
      refine stp ?_; try with_reducible exact True.intro
      refine ⟨i + 1, ⟨.frz [], [1], ⟨rfl, rfl, ?_, rfl, trivial⟩, ⟨?_, trivial⟩, by decide, rfl, rfl, rfl⟩, by first | ((try dsimp only); omega) | (simp; omega), by first | ((try dsimp only); omega) | (simp; omega)⟩ <;> rw [hu]
      · show V.own 1 0 _ = V.own 1 0 _
        congr 1
        simp
      · refine congrArg (fun x => some (Obj.arr (.int .u8) x true)) ?_
        simp
  · obtain rfl : i = l.length := by omega
    refine stp ?_; try with_reducible exact True.intro
    rw [List.drop_zero, List.take_length, jb_joi]
def nt (l : List Int) : ByteArray := if l = [] then ⟨#[45]⟩ else joi (l.map ito) ⟨#[44]⟩
def In64 (l : List Int) : Prop := ∀ x ∈ l, -9223372036854775808 ≤ x ∧ x ≤ 9223372036854775807
theorem In64_of {l : List Int} (h : wfT (.list (.int .i64)) l) : In64 l := fun x hx => by
  have h1 : (Lit.int .i64 x).wf = true := h x hx
  simpa [Lit.wf, IntKind.min, IntKind.max, IntKind.signed, IntKind.bits] using h1
theorem In64_rd {l : List Int} (h : In64 l) (i : Int) : -9223372036854775808 ≤ rd l i ∧ rd l i ≤ 9223372036854775807 := by
  simp only [rd, List.getD]
  cases hx : l[i.toNat]? with
  | none => simp
  | some y => exact h y (List.mem_of_getElem? hx)
theorem nt_size {l : List Int} (h : In64 l) : (joi (l.map ito) ⟨#[44]⟩).size ≤ l.length * 22 := by
  have := joi_le (l.map ito) ⟨#[44]⟩ (b := 21) (fun x hx => by
    obtain ⟨y, hy, rfl⟩ := List.mem_map.1 hx
    exact ito_size y (h y hy).1 (h y hy).2)
  rw [List.length_map] at this
  exact this
theorem take_map_succ (l : List Int) {i : Nat} (h : i < l.length) : (l.map ito).take (i + 1) = (l.map ito).take i ++ [ito (rd l i)] := by
  rw [List.take_add_one, List.getElem?_map, List.getElem?_eq_getElem h]
  simp [rd, List.getD, List.getElem?_eq_getElem h]
theorem take_ito (l : List Int) : (l.map ito).take l.length = l.map ito := List.take_of_length_le (by simp)
theorem NumbersTextS (l : List Int) (hn : (l.length : Int) ≤ 1048576) (h : In64 l) : ConS Tryd.prog 58 [.il l] (.s (nt l)) := by
  have hsz := nt_size h
  refine conS_of hmix hTab Tryd.func58 rfl rfl (by kernel_rfl) (by show 1 ≤ Tryd.f58.ntmps; decide) rfl ?_
  refine stp ?_; try with_reducible exact True.intro
  refine Br.mk (fun hz => ?_) (fun hz => ?_) <;> simp [-Int.ofNat_toNat] at hz
  · refine stp ?_; try with_reducible exact True.intro
    rw [nt, if_pos hz]
  refine stp ?_; try with_reducible exact True.intro
  refine ⟨Nat, fun i => i ≤ l.length, fun i => l.length - i, fun i => [(0, .il l), (3, .own 0 0 i), (4, .i i)], fun i => [.arr .str ((l.map ito).take i) true], ⟨0, (fitK [] [0]), Nat.zero_le _⟩, fun i hi => ?_⟩
  dsimp only at hi ⊢
  have hr := In64_rd h i
  refine stp ?_; try with_reducible exact True.intro
  refine Br.mk (fun h1 => ?_) (fun h1 => ?_) <;> simp [-Int.ofNat_toNat] at h1
  · refine stp ?_; try with_reducible exact True.intro
    refine useT ((FormatIntS _ hr.1 hr.2).toT) ?_; try with_reducible exact True.intro
    refine ⟨i + 1, ⟨.frz [], [2], ⟨rfl, rfl, rfl, trivial⟩, ⟨?_, trivial⟩, by decide, rfl, rfl, rfl⟩, by first | ((try dsimp only); omega) | (simp; omega), by first | ((try dsimp only); omega) | (simp; omega)⟩
    rw [take_map_succ l (by omega)]
    refine congrArg (fun x => some (Obj.arr .str x true)) ?_
    simp [rd, List.take_take]
  · obtain rfl : i = l.length := by omega
    rw [take_ito]
    refine stp ?_; try with_reducible exact True.intro
    refine useT ((JoinS (l.map ito) ⟨#[44]⟩ (by omega) (by rw [List.length_map]; exact hn)).toT) ?_; try with_reducible exact True.intro
    rw [nt, if_neg hz]
theorem NumbersTextI (l : List Int) (hn : (l.length : Int) ≤ 1048576) (h : In64 l) : ConS Tryd.prog 66 [.il l] (.s (nt l)) := by
  have hsz := nt_size h
  refine conS_of hmix hTab Tryd.func66 rfl rfl (by kernel_rfl) (by show 1 ≤ Tryd.f66.ntmps; decide) rfl ?_
  refine stp ?_; try with_reducible exact True.intro
  refine Br.mk (fun hz => ?_) (fun hz => ?_) <;> simp [-Int.ofNat_toNat] at hz
  · refine stp ?_; try with_reducible exact True.intro
    rw [nt, if_pos hz]
  refine stp ?_; try with_reducible exact True.intro
  refine ⟨Nat, fun i => i ≤ l.length, fun i => l.length - i, fun i => [(3, .own 0 0 i), (10, .il l), (11, .i l.length), (12, .i i)], fun i => [.arr .str ((l.map ito).take i) true], ⟨0, (fitK [] [0]), Nat.zero_le _⟩, fun i hi => ?_⟩
  dsimp only at hi ⊢
  have hr := In64_rd h i
  refine stp ?_; try with_reducible exact True.intro
  refine Br.mk (fun h1 => ?_) (fun h1 => ?_) <;> simp [-Int.ofNat_toNat] at h1
  · refine stp ?_; try with_reducible exact True.intro
    refine useT ((FormatIntI _ hr.1 hr.2).toT) ?_; try with_reducible exact True.intro
    refine ⟨i + 1, ⟨.frz [], [2], ⟨rfl, rfl, rfl, rfl, trivial⟩, ⟨?_, trivial⟩, by decide, rfl, rfl, rfl⟩, by first | ((try dsimp only); omega) | (simp; omega), by first | ((try dsimp only); omega) | (simp; omega)⟩
    rw [take_map_succ l (by omega)]
    refine congrArg (fun x => some (Obj.arr .str x true)) ?_
    simp [rd, List.take_take]
  · obtain rfl : i = l.length := by omega
    rw [take_ito]
    refine stp ?_; try with_reducible exact True.intro
    refine useT ((JoinI (l.map ito) ⟨#[44]⟩ (by omega)).toT) ?_; try with_reducible exact True.intro
    rw [nt, if_neg hz]
end Go.Proofs.YtffiddkignmobaaDoorTv
end
section
open Go Go.Proofs.YtffiddkignmobaaDoorVe Go.Proofs.YtffiddkignmobaaDoorTv Go.Proofs
namespace Go.Proofs.YtffiddkignmobaaDoorTv
set_option maxRecDepth 8000
set_option maxHeartbeats 2000000
theorem szA (a : Array UInt8) : (ByteArray.mk a).size = a.size := rfl
def stx (s : Int × Int) : ByteArray := if isSlp s = true then ito s.1 ++ ⟨#[47]⟩ ++ ito s.2 else ⟨#[]⟩
theorem ito_s (n : Int) (h : -1000000 ≤ n ∧ n ≤ 1000000) : (ito n).size ≤ 21 := ito_size n (by omega) (by omega)
theorem SlopeTextI (s : Int × Int) : ConS Tryd.prog 36 [slV s] (.s (stx s)) := by
  obtain ⟨p, q⟩ := s
  have w := IsSlopeI p q
  unfold stx
  refine conS_of hmix hTab Tryd.func36 rfl rfl (by kernel_rfl) (by show 1 ≤ Tryd.f36.ntmps; decide) rfl ?_
  dsimp only [slV] at w ⊢
  cases hs : isSlp (p, q) with
  | false =>
    rw [hs] at w
    refine stp ?_; try with_reducible exact True.intro
    refine useT w.toT ?_ ⟨⟨rfl, rfl, trivial⟩, trivial⟩
    refine stp ?_; try with_reducible exact True.intro
    rfl
  | true =>
    rw [hs] at w
    unfold isSlp at hs
    have hs := of_decide_eq_true hs
    dsimp only at hs
    have k1 := ito_s p (by omega)
    have k2 := ito_s q (by omega)
    refine stp ?_; try with_reducible exact True.intro
    refine useT w.toT ?_ ⟨⟨rfl, rfl, trivial⟩, trivial⟩
    refine stp ?_; try with_reducible exact True.intro
    refine .inl ⟨_, _, FormatIntI p (by omega) (by omega), by repeat (first | exact trivial | refine ⟨by first | exact rfl | exact trivial | exact ⟨_, rfl, rfl⟩ | exact ⟨_, _, rfl, by first | (simp; done) | (simp; omega), by first | (simp; done) | (simp [List.take_of_length_le]; done) | (rw [List.drop_zero]; exact List.take_of_length_le (by first | omega | (simp; omega))) | (simp [List.take_of_length_le]; omega)⟩ | exact ⟨_, rfl, by first | (simp; done) | (simp; omega), by first | (simp; done) | (simp [List.take_of_length_le]; done) | (rw [List.drop_zero]; exact List.take_of_length_le (by first | omega | (simp; omega))) | (simp [List.take_of_length_le]; omega)⟩, ?_⟩), ?_⟩; refine stp ?_; try with_reducible exact True.intro
    refine ⟨by (try simp only [ByteArray.size_append, szA, List.size_toArray, List.length_cons, List.length_nil, Nat.zero_add, Nat.reduceAdd]); omega, ?_⟩; refine stp ?_; try with_reducible exact True.intro
    refine .inl ⟨_, _, FormatIntI q (by omega) (by omega), by repeat (first | exact trivial | refine ⟨by first | exact rfl | exact trivial | exact ⟨_, rfl, rfl⟩ | exact ⟨_, _, rfl, by first | (simp; done) | (simp; omega), by first | (simp; done) | (simp [List.take_of_length_le]; done) | (rw [List.drop_zero]; exact List.take_of_length_le (by first | omega | (simp; omega))) | (simp [List.take_of_length_le]; omega)⟩ | exact ⟨_, rfl, by first | (simp; done) | (simp; omega), by first | (simp; done) | (simp [List.take_of_length_le]; done) | (rw [List.drop_zero]; exact List.take_of_length_le (by first | omega | (simp; omega))) | (simp [List.take_of_length_le]; omega)⟩, ?_⟩), ?_⟩; refine stp ?_; try with_reducible exact True.intro
    refine ⟨by (try simp only [ByteArray.size_append, szA, List.size_toArray, List.length_cons, List.length_nil, Nat.zero_add, Nat.reduceAdd]); omega, ?_⟩; refine stp ?_; try with_reducible exact True.intro
    rfl
theorem SlopeTextS (s : Int × Int) : ConS Tryd.prog 29 [slV s] (.s (stx s)) := by
  obtain ⟨p, q⟩ := s
  have w := IsSlopeS p q
  unfold stx
  refine conS_of hmix hTab Tryd.func29 rfl rfl (by kernel_rfl) (by show 1 ≤ Tryd.f29.ntmps; decide) rfl ?_
  dsimp only [slV] at w ⊢
  cases hs : isSlp (p, q) with
  | false =>
    rw [hs] at w
    refine stp ?_; try with_reducible exact True.intro
    refine useT w.toT ?_ ⟨⟨rfl, rfl, trivial⟩, trivial⟩
    refine stp ?_; try with_reducible exact True.intro
    rfl
  | true =>
    rw [hs] at w
    unfold isSlp at hs
    have hs := of_decide_eq_true hs
    dsimp only at hs
    have k1 := ito_s p (by omega)
    have k2 := ito_s q (by omega)
    refine stp ?_; try with_reducible exact True.intro
    refine useT w.toT ?_ ⟨⟨rfl, rfl, trivial⟩, trivial⟩
    refine stp ?_; try with_reducible exact True.intro
    refine .inl ⟨_, _, FormatIntS p (by omega) (by omega), by repeat (first | exact trivial | refine ⟨by first | exact rfl | exact trivial | exact ⟨_, rfl, rfl⟩ | exact ⟨_, _, rfl, by first | (simp; done) | (simp; omega), by first | (simp; done) | (simp [List.take_of_length_le]; done) | (rw [List.drop_zero]; exact List.take_of_length_le (by first | omega | (simp; omega))) | (simp [List.take_of_length_le]; omega)⟩ | exact ⟨_, rfl, by first | (simp; done) | (simp; omega), by first | (simp; done) | (simp [List.take_of_length_le]; done) | (rw [List.drop_zero]; exact List.take_of_length_le (by first | omega | (simp; omega))) | (simp [List.take_of_length_le]; omega)⟩, ?_⟩), ?_⟩; refine stp ?_; try with_reducible exact True.intro
    refine ⟨by (try simp only [ByteArray.size_append, szA, List.size_toArray, List.length_cons, List.length_nil, Nat.zero_add, Nat.reduceAdd]); omega, ?_⟩; refine stp ?_; try with_reducible exact True.intro
    refine .inl ⟨_, _, FormatIntS q (by omega) (by omega), by repeat (first | exact trivial | refine ⟨by first | exact rfl | exact trivial | exact ⟨_, rfl, rfl⟩ | exact ⟨_, _, rfl, by first | (simp; done) | (simp; omega), by first | (simp; done) | (simp [List.take_of_length_le]; done) | (rw [List.drop_zero]; exact List.take_of_length_le (by first | omega | (simp; omega))) | (simp [List.take_of_length_le]; omega)⟩ | exact ⟨_, rfl, by first | (simp; done) | (simp; omega), by first | (simp; done) | (simp [List.take_of_length_le]; done) | (rw [List.drop_zero]; exact List.take_of_length_le (by first | omega | (simp; omega))) | (simp [List.take_of_length_le]; omega)⟩, ?_⟩), ?_⟩; refine stp ?_; try with_reducible exact True.intro
    refine ⟨by (try simp only [ByteArray.size_append, szA, List.size_toArray, List.length_cons, List.length_nil, Nat.zero_add, Nat.reduceAdd]); omega, ?_⟩; refine stp ?_; try with_reducible exact True.intro
    rfl
@[reducible] def slT : Ty := .pair (.int .i64) (.pair (.int .i64) .unit)
abbrev Sl := Int × Int × Unit
def slp (x : Int × Int) : Sl := (x.1, x.2, ())
def twM (m : Mx) : Bool := isM m && !decide (m.2.1 = 0 ∧ m.2.2.1 = 0) && decide (trM m = 2 ∨ trM m = -2)
theorem c0 : ((ByteArray.mk #[]).toList == kTw.toList) = false := by decide +kernel
theorem cId : (kId.toList == kTw.toList) = false := by decide +kernel
theorem cPe : (kPe.toList == kTw.toList) = false := by decide +kernel
theorem cTw : (kTw.toList == kTw.toList) = true := by decide +kernel
theorem cSt : (kSt.toList == kTw.toList) = false := by decide +kernel
theorem kin_tw (m : Mx) : ((kinM m).toList == kTw.toList) = twM m := by
  unfold kinM twM
  cases hm : isM m with
  | false => rw [if_pos rfl, c0]; rfl
  | true =>
    rw [if_neg (by decide)]
    by_cases h1 : m.2.1 = 0 ∧ m.2.2.1 = 0
    · rw [if_pos h1, decide_eq_true h1, cId]; rfl
    · rw [if_neg h1, decide_eq_false h1]
      by_cases h2 : -1 ≤ trM m ∧ trM m ≤ 1
      · rw [if_pos h2, decide_eq_false (by omega), cPe]; rfl
      · rw [if_neg h2]
        by_cases h3 : trM m = 2 ∨ trM m = -2
        · rw [if_pos h3, decide_eq_true h3, cTw]; rfl
        · rw [if_neg h3, decide_eq_false h3, cSt]; rfl
def fxL (m : Mx) : List Sl := if twM m = true then (if m.1 - (trM m).tdiv 2 = 0 ∧ m.2.2.1 = 0 then [slp (slo m.2.1 (m.2.2.2 - (trM m).tdiv 2))] else [slp (slo (m.1 - (trM m).tdiv 2) m.2.2.1)]) else []
theorem tw_facts {a b c d : Int} (h : twM (a, b, c, d) = true) : MxF a b c d ∧ ((a + d).tdiv 2 = 1 ∨ (a + d).tdiv 2 = -1) ∧ (-1000 ≤ a - (a + d).tdiv 2 ∧ a - (a + d).tdiv 2 ≤ 1000) ∧ (d - (a + d).tdiv 2 = -(a - (a + d).tdiv 2)) ∧ ¬ (b = 0 ∧ c = 0) := by
  unfold twM trM at h
  simp only [Bool.and_eq_true, Bool.not_eq_true', decide_eq_true_eq, decide_eq_false_iff_not] at h
  obtain ⟨⟨h1, h2⟩, h3⟩ := h
  obtain ⟨h4, -⟩ := isM_iff.1 h1
  obtain ⟨⟨a1, a2⟩, b1, c1, d1, d2⟩ := h4
  refine ⟨⟨⟨a1, a2⟩, b1, c1, d1, d2⟩, ?_⟩
  rcases h3 with h3 | h3 <;> rw [h3]
  · exact ⟨.inl rfl, by show -1000 ≤ a - 1 ∧ a - 1 ≤ 1000; omega, by show d - 1 = -(a - 1); omega, h2⟩
  · exact ⟨.inr rfl, by show -1000 ≤ a - -1 ∧ a - -1 ≤ 1000; omega, by show d - -1 = -(a - -1); omega, h2⟩
theorem slO_some {p q : Int} (h : (-1000 ≤ p ∧ p ≤ 1000) ∧ (-1000 ≤ q ∧ q ≤ 1000) ∧ ¬(p = 0 ∧ q = 0)) : slO p q = (slo p q, true) := by unfold slO; rw [if_pos h]
theorem slO_zero : slO 0 0 = ((0, 0), false) := by unfold slO; rw [if_neg (by simp)]
theorem fx_len {m : Mx} (h : twM m = true) : (fxL m).length = 1 := by
  unfold fxL
  rw [if_pos h]
  split <;> rfl
theorem FixedSlopesI0 {m : Mx} (ht : twM m = false) : ConT Tryd.prog 35 [mxV m] (.nil .unit) [] := by
  obtain ⟨a, b, c, d⟩ := m
  have w := KindOfI (a, b, c, d)
  have hk := kin_tw (a, b, c, d)
  generalize kinM (a, b, c, d) = k at *
  refine conT_of hmix hTab Tryd.func35 rfl rfl (by kernel_rfl) (by show 1 ≤ Tryd.f35.ntmps; decide) ?_
  dsimp only [mxV] at w ⊢
  rw [ht] at hk
  refine stp ?_; try with_reducible exact True.intro
  refine useT w.toT ?_ ⟨⟨rfl, rfl, rfl, rfl, trivial⟩, trivial⟩
  refine brT (by rw [show (k.toList == (ByteArray.mk #[116, 119, 105, 115, 116]).toList) = false from hk]; rfl) ?_
  refine stp ?_; try with_reducible exact True.intro
  exact (fitK [] [])
theorem FixedSlopesI1 {m : Mx} (ht : twM m = true) : ConT Tryd.prog 35 [mxV m] (.own 0 0 1) [.arr slT (fxL m) true] := by
  obtain ⟨a, b, c, d⟩ := m
  have w := KindOfI (a, b, c, d)
  have hk := kin_tw (a, b, c, d)
  generalize kinM (a, b, c, d) = k at *
  have w1 := fun p q h => slO_some (p := p) (q := q) h ▸ SlopeOfI p q
  unfold fxL
  rw [if_pos ht]
  rw [ht] at hk
  obtain ⟨⟨ha, hb, hc, hd⟩, ht, hr, he, hn⟩ := tw_facts ht
  unfold trM
  by_cases h1 : a - (a + d).tdiv 2 = 0
  · by_cases h2 : c = 0
    · rw [if_pos ⟨h1, h2⟩]
      refine conT_of hmix hTab Tryd.func35 rfl rfl (by kernel_rfl) (by show 1 ≤ Tryd.f35.ntmps; decide) ?_
      dsimp only [mxV, slOV, slV, trM] at w w1 ⊢
      refine stp ?_; try with_reducible exact True.intro
      refine useT w.toT ?_ ⟨⟨rfl, rfl, rfl, rfl, trivial⟩, trivial⟩
      refine brF (by rw [show (k.toList == (ByteArray.mk #[116, 119, 105, 115, 116]).toList) = true from hk]; rfl) ?_
      refine stp ?_; try with_reducible exact True.intro
      rw [decide_eq_true h1]
      refine stp ?_; try with_reducible exact True.intro
      rw [decide_eq_true h2]
      refine stp ?_; try with_reducible exact True.intro
      have w1 := w1 (b) (d - (a + d).tdiv 2) (by omega)
      refine useT (w1.toT) ?_; try with_reducible exact True.intro
      exact (fitK [] [2])
    · rw [if_neg (fun h => h2 h.2)]
      refine conT_of hmix hTab Tryd.func35 rfl rfl (by kernel_rfl) (by show 1 ≤ Tryd.f35.ntmps; decide) ?_
      dsimp only [mxV, slOV, slV, trM] at w w1 ⊢
      refine stp ?_; try with_reducible exact True.intro
      refine useT w.toT ?_ ⟨⟨rfl, rfl, rfl, rfl, trivial⟩, trivial⟩
      refine brF (by rw [show (k.toList == (ByteArray.mk #[116, 119, 105, 115, 116]).toList) = true from hk]; rfl) ?_
      refine stp ?_; try with_reducible exact True.intro
      rw [decide_eq_true h1]
      refine stp ?_; try with_reducible exact True.intro
      rw [decide_eq_false h2]
      refine stp ?_; try with_reducible exact True.intro
      have w1 := w1 (a - (a + d).tdiv 2) (c) (by omega)
      refine useT (w1.toT) ?_; try with_reducible exact True.intro
      exact (fitK [] [2])
  · rw [if_neg (fun h => h1 h.1)]
    refine conT_of hmix hTab Tryd.func35 rfl rfl (by kernel_rfl) (by show 1 ≤ Tryd.f35.ntmps; decide) ?_
    dsimp only [mxV, slOV, slV, trM] at w w1 ⊢
    refine stp ?_; try with_reducible exact True.intro
    refine useT w.toT ?_ ⟨⟨rfl, rfl, rfl, rfl, trivial⟩, trivial⟩
    refine brF (by rw [show (k.toList == (ByteArray.mk #[116, 119, 105, 115, 116]).toList) = true from hk]; rfl) ?_
    refine stp ?_; try with_reducible exact True.intro
    rw [decide_eq_false h1]
    refine stp ?_; try with_reducible exact True.intro
    have w1 := w1 (a - (a + d).tdiv 2) (c) (by omega)
    refine useT (w1.toT) ?_; try with_reducible exact True.intro
    exact (fitK [] [2])
theorem FixedSlopesS (m : Mx) : ConT Tryd.prog 28 [mxV m] (.own 0 0 (fxL m).length) [.arr slT (fxL m) true] := by
  obtain ⟨a, b, c, d⟩ := m
  have w := KindOfS (a, b, c, d)
  have hk := kin_tw (a, b, c, d)
  generalize kinM (a, b, c, d) = k at *
  have w1 := fun p q h => slO_some (p := p) (q := q) h ▸ SlopeOfS p q
  have w0 := slO_zero ▸ SlopeOfS 0 0
  unfold fxL trM
  cases ht : twM (a, b, c, d) with
  | false =>
    rw [ht] at hk
    rw [if_neg (by decide)]
    refine conT_of hmix hTab Tryd.func28 rfl rfl (by kernel_rfl) (by show 1 ≤ Tryd.f28.ntmps; decide) ?_
    dsimp only [mxV, slOV, slV] at w w1 w0 ⊢
    refine stp ?_; try with_reducible exact True.intro
    refine useT w.toT ?_ ⟨⟨rfl, rfl, rfl, rfl, trivial⟩, trivial⟩
    refine brT (by rw [show (k.toList == (ByteArray.mk #[116, 119, 105, 115, 116]).toList) = false from hk]; rfl) ?_
    refine stp ?_; try with_reducible exact True.intro
    exact (fitK [] [1])
  | true =>
    rw [ht] at hk
    obtain ⟨⟨ha, hb, hc, hd⟩, ht, hr, he, hn⟩ := tw_facts ht
    rw [if_pos rfl]
    dsimp only [mxV, slOV, slV] at w w1 w0 ⊢
    by_cases h1 : a - (a + d).tdiv 2 = 0 ∧ c = 0
    · obtain ⟨h1, rfl⟩ := h1
      have w0 : ConS Tryd.prog 103 [.i (a - (a + d).tdiv 2), .i 0] (.tup [.agg [.i 0, .i 0], .b false]) := h1.symm ▸ w0
      rw [if_pos ⟨h1, rfl⟩]
      refine conT_of hmix hTab Tryd.func28 rfl rfl (by kernel_rfl) (by show 1 ≤ Tryd.f28.ntmps; decide) ?_
      refine stp ?_; try with_reducible exact True.intro
      refine useT w.toT ?_ ⟨⟨rfl, rfl, rfl, rfl, trivial⟩, trivial⟩
      refine brF (by rw [show (k.toList == (ByteArray.mk #[116, 119, 105, 115, 116]).toList) = true from hk]; rfl) ?_
      refine stp ?_; try with_reducible exact True.intro
      refine useT (w0.toT) ?_; try with_reducible exact True.intro
      have w1 := w1 b (d - (a + d).tdiv 2) (by omega)
      refine useT (w1.toT) ?_; try with_reducible exact True.intro
      exact (fitK [] [4])
    · rw [if_neg h1]
      refine conT_of hmix hTab Tryd.func28 rfl rfl (by kernel_rfl) (by show 1 ≤ Tryd.f28.ntmps; decide) ?_
      refine stp ?_; try with_reducible exact True.intro
      refine useT w.toT ?_ ⟨⟨rfl, rfl, rfl, rfl, trivial⟩, trivial⟩
      refine brF (by rw [show (k.toList == (ByteArray.mk #[116, 119, 105, 115, 116]).toList) = true from hk]; rfl) ?_
      refine stp ?_; try with_reducible exact True.intro
      have w1 := w1 (a - (a + d).tdiv 2) c (by omega)
      refine useT (w1.toT) ?_; try with_reducible exact True.intro
      exact (fitK [] [4])
end Go.Proofs.YtffiddkignmobaaDoorTv
end
section
open Go Go.Proofs.YtffiddkignmobaaDoorVe Go.Proofs.YtffiddkignmobaaDoorTv Go.Proofs
namespace Go.Proofs.YtffiddkignmobaaDoorTv
set_option maxRecDepth 8000
set_option maxHeartbeats 2000000
def mulM (m n : Mx) : Mx := (m.1 * n.1 + m.2.1 * n.2.2.1, m.1 * n.2.1 + m.2.1 * n.2.2.2, m.2.2.1 * n.1 + m.2.2.2 * n.2.2.1, m.2.2.1 * n.2.1 + m.2.2.2 * n.2.2.2)
def MxB (m : Mx) : Prop := MxF m.1 m.2.1 m.2.2.1 m.2.2.2
theorem l13Times {m n : Mx} (hm : MxB m) (hn : MxB n) : ConS Tryd.prog 106 [mxV m, mxV n] (mxV (mulM m n)) := by
  obtain ⟨a, b, c, d⟩ := m
  obtain ⟨a', b', c', d'⟩ := n
  obtain ⟨ha, hb, hc, hd⟩ := hm
  obtain ⟨ha', hb', hc', hd'⟩ := hn
  dsimp only at *
  have h1 := mul_k ha ha'
  have h2 := mul_k hb hc'
  have h3 := mul_k ha hb'
  have h4 := mul_k hb hd'
  have h5 := mul_k hc ha'
  have h6 := mul_k hd hc'
  have h7 := mul_k hc hb'
  have h8 := mul_k hd hd'
  unfold mulM
  refine conS_of hmix hTab Tryd.func106 rfl rfl (by kernel_rfl) (by show 2 ≤ Tryd.f106.ntmps; decide) rfl ?_
  dsimp only [mxV]
  repeat (first | (with_reducible refine wpKs ?_) | (with_reducible refine wpKb ?_) | (with_reducible refine wpKbn ?_) | (with_reducible refine wpKk ?_) | (refine wpKt rfl ?_) | (refine wpKf rfl ?_) | (with_reducible refine wpKr ?_) | ((with_reducible refine wpKd ?_ ?_); kernel_rfl) | (with_reducible refine wpKn ?_) | (with_reducible refine seqKn ?_) | (with_reducible refine drawKn ?_) | (first | refine seqKs rfl rfl rfl rfl ?_ | refine seqKu rfl rfl rfl rfl ?_ | refine drawKs rfl rfl rfl rfl ?_ | refine drawKu rfl rfl rfl rfl ?_) | ((first | refine seqK rfl rfl (fun K' hK => ?_) | refine seqKr rfl rfl rfl rfl (fun K' hK => ?_)); refine stp ?_; with_reducible refine hK _ _ ?_; clear hK K') | ((first | refine drawK rfl rfl (fun K' hK => ?_) | refine drawKr rfl rfl rfl rfl (fun K' hK => ?_)); refine stp ?_; with_reducible refine hK _ _ _ ?_; clear hK K') | (refine seqKz rfl rfl (fun K' hK => ?_); refine stp ?_; with_reducible refine hK _ ?_; clear hK K') | (refine drawKz rfl rfl (fun K' hK => ?_); refine stp ?_; with_reducible refine hK _ _ ?_; clear hK K'))
  refine stp ?_; try with_reducible exact True.intro
  rfl
theorem TimesMatrix {m n : Mx} (hm : isM m = true) (hn : isM n = true) (hmn : isM (mulM m n) = true) : ConS Tryd.prog 114 [mxV m, mxV n] (.tup [mxV (mulM m n), .b true]) := by
  have w1 := IsMatrixI m
  have w2 := IsMatrixI n
  have w3 := IsMatrixI (mulM m n)
  rw [hm] at w1
  rw [hn] at w2
  rw [hmn] at w3
  obtain ⟨a, b, c, d⟩ := m
  obtain ⟨a', b', c', d'⟩ := n
  obtain ⟨⟨ha, hb, hc, hd⟩, -⟩ := isM_iff.1 hm
  obtain ⟨⟨ha', hb', hc', hd'⟩, -⟩ := isM_iff.1 hn
  have h1 := mul_k ha ha'
  have h2 := mul_k hb hc'
  have h3 := mul_k ha hb'
  have h4 := mul_k hb hd'
  have h5 := mul_k hc ha'
  have h6 := mul_k hd hc'
  have h7 := mul_k hc hb'
  have h8 := mul_k hd hd'
  unfold mulM at *
  refine conS_of hmix hTab Tryd.func114 rfl rfl (by kernel_rfl) (by show 2 ≤ Tryd.f114.ntmps; decide) rfl ?_
  dsimp only [mxV] at *
  repeat (first | (with_reducible refine wpKs ?_) | (with_reducible refine wpKb ?_) | (with_reducible refine wpKbn ?_) | (with_reducible refine wpKk ?_) | (refine wpKt rfl ?_) | (refine wpKf rfl ?_) | (with_reducible refine wpKr ?_) | ((with_reducible refine wpKd ?_ ?_); kernel_rfl) | (with_reducible refine wpKn ?_) | (with_reducible refine seqKn ?_) | (with_reducible refine drawKn ?_) | (first | refine seqKs rfl rfl rfl rfl ?_ | refine seqKu rfl rfl rfl rfl ?_ | refine drawKs rfl rfl rfl rfl ?_ | refine drawKu rfl rfl rfl rfl ?_) | ((first | refine seqK rfl rfl (fun K' hK => ?_) | refine seqKr rfl rfl rfl rfl (fun K' hK => ?_)); refine stp ?_; with_reducible refine hK _ _ ?_; clear hK K') | ((first | refine drawK rfl rfl (fun K' hK => ?_) | refine drawKr rfl rfl rfl rfl (fun K' hK => ?_)); refine stp ?_; with_reducible refine hK _ _ _ ?_; clear hK K') | (refine seqKz rfl rfl (fun K' hK => ?_); refine stp ?_; with_reducible refine hK _ ?_; clear hK K') | (refine drawKz rfl rfl (fun K' hK => ?_); refine stp ?_; with_reducible refine hK _ _ ?_; clear hK K'))
  (first | refine seqK rfl rfl (fun K' hK => ?_) | refine seqKr rfl rfl rfl rfl (fun K' hK => ?_)); (conv => whnf); refine useT (w1.toT) ?_ ⟨⟨rfl, rfl, rfl, rfl, trivial⟩, trivial⟩; (with_reducible refine hK _ _ ?_); clear hK K'; repeat (first | (with_reducible refine wpKs ?_) | (with_reducible refine wpKb ?_) | (with_reducible refine wpKbn ?_) | (with_reducible refine wpKk ?_) | (refine wpKt rfl ?_) | (refine wpKf rfl ?_) | (with_reducible refine wpKr ?_) | ((with_reducible refine wpKd ?_ ?_); kernel_rfl) | (with_reducible refine wpKn ?_) | (with_reducible refine seqKn ?_) | (with_reducible refine drawKn ?_) | (first | refine seqKs rfl rfl rfl rfl ?_ | refine seqKu rfl rfl rfl rfl ?_ | refine drawKs rfl rfl rfl rfl ?_ | refine drawKu rfl rfl rfl rfl ?_) | ((first | refine seqK rfl rfl (fun K' hK => ?_) | refine seqKr rfl rfl rfl rfl (fun K' hK => ?_)); refine stp ?_; with_reducible refine hK _ _ ?_; clear hK K') | ((first | refine drawK rfl rfl (fun K' hK => ?_) | refine drawKr rfl rfl rfl rfl (fun K' hK => ?_)); refine stp ?_; with_reducible refine hK _ _ _ ?_; clear hK K') | (refine seqKz rfl rfl (fun K' hK => ?_); refine stp ?_; with_reducible refine hK _ ?_; clear hK K') | (refine drawKz rfl rfl (fun K' hK => ?_); refine stp ?_; with_reducible refine hK _ _ ?_; clear hK K'))
  (first | refine seqK rfl rfl (fun K' hK => ?_) | refine seqKr rfl rfl rfl rfl (fun K' hK => ?_)); (conv => whnf); refine useT (w2.toT) ?_ ⟨⟨rfl, rfl, rfl, rfl, trivial⟩, trivial⟩; (with_reducible refine hK _ _ ?_); clear hK K'; repeat (first | (with_reducible refine wpKs ?_) | (with_reducible refine wpKb ?_) | (with_reducible refine wpKbn ?_) | (with_reducible refine wpKk ?_) | (refine wpKt rfl ?_) | (refine wpKf rfl ?_) | (with_reducible refine wpKr ?_) | ((with_reducible refine wpKd ?_ ?_); kernel_rfl) | (with_reducible refine wpKn ?_) | (with_reducible refine seqKn ?_) | (with_reducible refine drawKn ?_) | (first | refine seqKs rfl rfl rfl rfl ?_ | refine seqKu rfl rfl rfl rfl ?_ | refine drawKs rfl rfl rfl rfl ?_ | refine drawKu rfl rfl rfl rfl ?_) | ((first | refine seqK rfl rfl (fun K' hK => ?_) | refine seqKr rfl rfl rfl rfl (fun K' hK => ?_)); refine stp ?_; with_reducible refine hK _ _ ?_; clear hK K') | ((first | refine drawK rfl rfl (fun K' hK => ?_) | refine drawKr rfl rfl rfl rfl (fun K' hK => ?_)); refine stp ?_; with_reducible refine hK _ _ _ ?_; clear hK K') | (refine seqKz rfl rfl (fun K' hK => ?_); refine stp ?_; with_reducible refine hK _ ?_; clear hK K') | (refine drawKz rfl rfl (fun K' hK => ?_); refine stp ?_; with_reducible refine hK _ _ ?_; clear hK K'))
  (first | refine seqK rfl rfl (fun K' hK => ?_) | refine seqKr rfl rfl rfl rfl (fun K' hK => ?_)); (conv => whnf); refine useT (w3.toT) ?_ ⟨⟨rfl, rfl, rfl, rfl, trivial⟩, trivial⟩; (with_reducible refine hK _ _ ?_); clear hK K'; repeat (first | (with_reducible refine wpKs ?_) | (with_reducible refine wpKb ?_) | (with_reducible refine wpKbn ?_) | (with_reducible refine wpKk ?_) | (refine wpKt rfl ?_) | (refine wpKf rfl ?_) | (with_reducible refine wpKr ?_) | ((with_reducible refine wpKd ?_ ?_); kernel_rfl) | (with_reducible refine wpKn ?_) | (with_reducible refine seqKn ?_) | (with_reducible refine drawKn ?_) | (first | refine seqKs rfl rfl rfl rfl ?_ | refine seqKu rfl rfl rfl rfl ?_ | refine drawKs rfl rfl rfl rfl ?_ | refine drawKu rfl rfl rfl rfl ?_) | ((first | refine seqK rfl rfl (fun K' hK => ?_) | refine seqKr rfl rfl rfl rfl (fun K' hK => ?_)); refine stp ?_; with_reducible refine hK _ _ ?_; clear hK K') | ((first | refine drawK rfl rfl (fun K' hK => ?_) | refine drawKr rfl rfl rfl rfl (fun K' hK => ?_)); refine stp ?_; with_reducible refine hK _ _ _ ?_; clear hK K') | (refine seqKz rfl rfl (fun K' hK => ?_); refine stp ?_; with_reducible refine hK _ ?_; clear hK K') | (refine drawKz rfl rfl (fun K' hK => ?_); refine stp ?_; with_reducible refine hK _ _ ?_; clear hK K'))
  refine stp ?_; try with_reducible exact True.intro
  rfl
def pwM (m : Mx) : Nat → Mx
  | 0 => m
  | k + 1 => mulM (pwM m k) m
theorem mul1 {m : Mx} : mulM (1, 0, 0, 1) m = m := by simp [mulM]
theorem mulN {m : Mx} : mulM (-1, 0, 0, -1) m = (-m.1, -m.2.1, -m.2.2.1, -m.2.2.2) := by simp [mulM]
/-- Cayley and Hamilton. -/
theorem cayley {a b c d t : Int} (h : a * d - b * c = 1) (ht : a + d = t) : mulM (a, b, c, d) (a, b, c, d) = (t * a - 1, t * b, t * c, t * d - 1) := by
  unfold mulM
  dsimp only
  subst ht
  simp only [Prod.mk.injEq]
  refine ⟨?_, ?_, ?_, ?_⟩ <;> grind
theorem invl {a b c d : Int} (h : a * d - b * c = 1) : mulM (d, -b, -c, a) (a, b, c, d) = (1, 0, 0, 1) := by
  unfold mulM
  dsimp only
  simp only [Prod.mk.injEq]
  refine ⟨?_, ?_, ?_, ?_⟩ <;> grind
theorem invl' {a b c d : Int} (h : a * d - b * c = 1) : mulM (-d, b, c, -a) (a, b, c, d) = (-1, 0, 0, -1) := by
  unfold mulM
  dsimp only
  simp only [Prod.mk.injEq]
  refine ⟨?_, ?_, ?_, ?_⟩ <;> grind
end Go.Proofs.YtffiddkignmobaaDoorTv
end
