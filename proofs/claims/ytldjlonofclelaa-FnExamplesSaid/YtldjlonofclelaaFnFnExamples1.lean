/- What functions of the program give: each contract holds for all arguments that its own sentence names. -/
import Derived.Test.YtldjlonofclelaaTv4
import Derived.Test.YtldjlonofclelaaProg
import Derived.Laws.Strings
import Derived.IntWalk
set_option linter.unusedVariables false
set_option linter.unusedSimpArgs false
section
open Go Go.Proofs.YtldjlonofclelaaVe Go.Proofs.YtldjlonofclelaaTv Go.Proofs
namespace Go.Proofs.YtldjlonofclelaaTv
set_option maxRecDepth 8000
set_option maxHeartbeats 2000000
def tab : List (Nat × TE) := [(1, ⟨.fnil, .other, 8⟩), (3, ⟨.int .i64, .int .i64, 8⟩), (4, ⟨.bool, .bool, 1⟩), (5, ⟨.int .u8, .int .u8, 1⟩), (9, ⟨.str, .str, 16⟩), (22, ⟨.list (.int .u8), .sl 5, 24⟩), (23, ⟨.fnil, .other, 8⟩), (24, ⟨.fnil, .other, 8⟩), (25, ⟨.list (.list (.int .i64)), .sl 28, 24⟩), (27, ⟨.fnil, .other, 8⟩), (28, ⟨.list (.int .i64), .sl 3, 24⟩), (30, ⟨.fnil, .other, 8⟩), (31, ⟨.fnil, .other, 8⟩), (32, ⟨.fnil, .other, 8⟩), (33, ⟨.fnil, .other, 8⟩), (34, ⟨.fnil, .other, 8⟩), (35, ⟨.fnil, .other, 8⟩), (37, ⟨.fnil, .other, 8⟩), (38, ⟨.fnil, .other, 8⟩), (39, ⟨.fnil, .other, 8⟩), (41, ⟨.pair (.int .i64) (.pair (.int .i64) (.unit)), .st [(0, 1), (1, 1)], 16⟩), (43, ⟨.fnil, .other, 8⟩), (44, ⟨.fnil, .other, 8⟩), (46, ⟨.fnil, .other, 8⟩), (48, ⟨.fnil, .other, 8⟩), (49, ⟨.fnil, .other, 8⟩), (50, ⟨.fnil, .other, 8⟩), (52, ⟨.pair (.int .i64) (.pair (.int .i64) (.pair (.int .i64) (.pair (.int .i64) (.unit)))), .st [(0, 1), (1, 1), (2, 1), (3, 1)], 32⟩), (54, ⟨.fnil, .other, 8⟩), (55, ⟨.fnil, .other, 8⟩), (56, ⟨.fnil, .other, 8⟩), (58, ⟨.fnil, .other, 8⟩), (59, ⟨.list (.str), .sl 9, 24⟩), (60, ⟨.fnil, .other, 8⟩), (61, ⟨.fnil, .other, 8⟩), (62, ⟨.fnil, .other, 8⟩), (63, ⟨.fnil, .other, 8⟩), (64, ⟨.list (.list (.list (.int .i64))), .sl 25, 24⟩), (65, ⟨.fnil, .other, 8⟩), (66, ⟨.fnil, .other, 8⟩), (67, ⟨.list (.bool), .sl 4, 24⟩), (68, ⟨.fnil, .other, 8⟩), (69, ⟨.fnil, .other, 8⟩), (70, ⟨.fnil, .other, 8⟩), (71, ⟨.fnil, .other, 8⟩), (72, ⟨.fnil, .other, 8⟩), (73, ⟨.fnil, .other, 8⟩), (76, ⟨.fnil, .other, 8⟩), (77, ⟨.fnil, .other, 8⟩), (78, ⟨.fnil, .other, 8⟩), (79, ⟨.fnil, .other, 8⟩), (80, ⟨.fnil, .other, 8⟩), (81, ⟨.fnil, .other, 8⟩), (82, ⟨.fnil, .other, 8⟩), (83, ⟨.fnil, .other, 8⟩), (84, ⟨.fnil, .other, 8⟩), (85, ⟨.fnil, .other, 8⟩), (86, ⟨.fnil, .other, 8⟩), (87, ⟨.fnil, .other, 8⟩), (88, ⟨.fnil, .other, 8⟩), (89, ⟨.fnil, .other, 8⟩), (90, ⟨.pair (.list (.int .u8)) (.pair (.int .i64) (.pair (.int .i64) (.unit))), .st [(0, 1), (1, 1), (2, 1)], 40⟩), (91, ⟨.pair (.list (.int .u8)) (.pair (.int .i64) (.pair (.int .i64) (.unit))), .st [(0, 1), (1, 1), (2, 1)], 40⟩), (92, ⟨.fnil, .other, 8⟩), (93, ⟨.fnil, .other, 8⟩), (94, ⟨.fnil, .other, 8⟩), (96, ⟨.fnil, .other, 8⟩), (97, ⟨.fnil, .other, 8⟩), (99, ⟨.fnil, .other, 8⟩), (100, ⟨.fnil, .other, 8⟩), (101, ⟨.fnil, .other, 8⟩), (102, ⟨.fnil, .other, 8⟩), (103, ⟨.fnil, .other, 8⟩), (104, ⟨.fnil, .other, 8⟩), (105, ⟨.fnil, .other, 8⟩), (106, ⟨.fnil, .other, 8⟩), (107, ⟨.fnil, .other, 8⟩), (108, ⟨.fnil, .other, 8⟩), (109, ⟨.int .u64, .int .u64, 8⟩), (111, ⟨.fnil, .other, 8⟩), (112, ⟨.fnil, .other, 8⟩), (113, ⟨.fnil, .other, 8⟩), (114, ⟨.fnil, .other, 8⟩), (115, ⟨.fnil, .other, 8⟩), (117, ⟨.fnil, .other, 8⟩), (118, ⟨.fnil, .other, 8⟩), (119, ⟨.fnil, .other, 8⟩), (120, ⟨.fnil, .other, 8⟩), (121, ⟨.fnil, .other, 8⟩), (122, ⟨.pair (.int .i64) (.pair (.int .i64) (.unit)), .arr 2 3, 16⟩), (123, ⟨.list (.pair (.int .i64) (.pair (.int .i64) (.unit))), .sl 122, 24⟩), (124, ⟨.fnil, .other, 8⟩), (125, ⟨.fnil, .other, 8⟩), (126, ⟨.pair (.list (.int .i64)) (.unit), .st [(0, 1)], 24⟩), (127, ⟨.pair (.list (.int .i64)) (.unit), .st [(0, 1)], 24⟩), (128, ⟨.fnil, .other, 8⟩), (129, ⟨.fnil, .other, 8⟩), (138, ⟨.fnil, .other, 8⟩)]
theorem hmix : Try.prog.follows .mixedOrders = true := by kernel_rfl
theorem hTab : TabOk Try.prog tab := fun t e h => by
  refine tabAll_ok (l := tab) ?_ t e h
  refine ⟨⟨by kernel_rfl, trivial⟩, ⟨by kernel_rfl, rfl⟩, ⟨by kernel_rfl, trivial⟩, ⟨by kernel_rfl, rfl⟩, ⟨by kernel_rfl, trivial⟩, ⟨by kernel_rfl, _, rfl, rfl, by decide, by decide, by decide⟩, ⟨by kernel_rfl, trivial⟩, ⟨by kernel_rfl, trivial⟩, ⟨by kernel_rfl, _, rfl, rfl, by decide, by decide, by decide⟩, ⟨by kernel_rfl, trivial⟩, ⟨by kernel_rfl, _, rfl, rfl, by decide, by decide, by decide⟩, ⟨by kernel_rfl, trivial⟩, ⟨by kernel_rfl, trivial⟩, ⟨by kernel_rfl, trivial⟩, ⟨by kernel_rfl, trivial⟩, ⟨by kernel_rfl, trivial⟩, ⟨by kernel_rfl, trivial⟩, ⟨by kernel_rfl, trivial⟩, ⟨by kernel_rfl, trivial⟩, ⟨by kernel_rfl, trivial⟩, ⟨by kernel_rfl, trivial⟩, ⟨by kernel_rfl, trivial⟩, ⟨by kernel_rfl, trivial⟩, ⟨by kernel_rfl, trivial⟩, ⟨by kernel_rfl, trivial⟩, ⟨by kernel_rfl, trivial⟩, ⟨by kernel_rfl, trivial⟩, ⟨by kernel_rfl, trivial⟩, ⟨by kernel_rfl, trivial⟩, ⟨by kernel_rfl, trivial⟩, ⟨by kernel_rfl, trivial⟩, ⟨by kernel_rfl, trivial⟩, ⟨by kernel_rfl, _, rfl, rfl, by decide, by decide, by decide⟩, ⟨by kernel_rfl, trivial⟩, ⟨by kernel_rfl, trivial⟩, ⟨by kernel_rfl, trivial⟩, ⟨by kernel_rfl, trivial⟩, ⟨by kernel_rfl, _, rfl, rfl, by decide, by decide, by decide⟩, ⟨by kernel_rfl, trivial⟩, ⟨by kernel_rfl, trivial⟩, ⟨by kernel_rfl, _, rfl, rfl, by decide, by decide, by decide⟩, ⟨by kernel_rfl, trivial⟩, ⟨by kernel_rfl, trivial⟩, ⟨by kernel_rfl, trivial⟩, ⟨by kernel_rfl, trivial⟩, ⟨by kernel_rfl, trivial⟩, ⟨by kernel_rfl, trivial⟩, ⟨by kernel_rfl, trivial⟩, ⟨by kernel_rfl, trivial⟩, ⟨by kernel_rfl, trivial⟩, ⟨by kernel_rfl, trivial⟩, ⟨by kernel_rfl, trivial⟩, ⟨by kernel_rfl, trivial⟩, ⟨by kernel_rfl, trivial⟩, ⟨by kernel_rfl, trivial⟩, ⟨by kernel_rfl, trivial⟩, ⟨by kernel_rfl, trivial⟩, ⟨by kernel_rfl, trivial⟩, ⟨by kernel_rfl, trivial⟩, ⟨by kernel_rfl, trivial⟩, ⟨by kernel_rfl, trivial⟩, ⟨by kernel_rfl, trivial⟩, ⟨by kernel_rfl, trivial⟩, ⟨by kernel_rfl, trivial⟩, ⟨by kernel_rfl, trivial⟩, ⟨by kernel_rfl, trivial⟩, ⟨by kernel_rfl, trivial⟩, ⟨by kernel_rfl, trivial⟩, ⟨by kernel_rfl, trivial⟩, ⟨by kernel_rfl, trivial⟩, ⟨by kernel_rfl, trivial⟩, ⟨by kernel_rfl, trivial⟩, ⟨by kernel_rfl, trivial⟩, ⟨by kernel_rfl, trivial⟩, ⟨by kernel_rfl, trivial⟩, ⟨by kernel_rfl, trivial⟩, ⟨by kernel_rfl, trivial⟩, ⟨by kernel_rfl, trivial⟩, ⟨by kernel_rfl, rfl⟩, ⟨by kernel_rfl, trivial⟩, ⟨by kernel_rfl, trivial⟩, ⟨by kernel_rfl, trivial⟩, ⟨by kernel_rfl, trivial⟩, ⟨by kernel_rfl, trivial⟩, ⟨by kernel_rfl, trivial⟩, ⟨by kernel_rfl, trivial⟩, ⟨by kernel_rfl, trivial⟩, ⟨by kernel_rfl, trivial⟩, ⟨by kernel_rfl, trivial⟩, ⟨by kernel_rfl, trivial⟩, ⟨by kernel_rfl, _, rfl, rfl, by decide, by decide, by decide⟩, ⟨by kernel_rfl, trivial⟩, ⟨by kernel_rfl, trivial⟩, ⟨by kernel_rfl, trivial⟩, ⟨by kernel_rfl, trivial⟩, ⟨by kernel_rfl, trivial⟩, ⟨by kernel_rfl, trivial⟩, ⟨by kernel_rfl, trivial⟩, trivial⟩
theorem l1In (a lo hi : Int) : ConS Try.prog 57 [.i a, .i lo, .i hi] (.b (decide (lo ≤ a ∧ a ≤ hi))) := by
  refine conS_of hmix hTab Try.func57 rfl rfl (by kernel_rfl) (by show 3 ≤ Try.f57.ntmps; decide) rfl ?_
  refine stp ?_; try with_reducible exact True.intro
  refine Br.mk (fun h => ?_) (fun h => ?_)
  all_goals refine stp ?_; try with_reducible exact True.intro
  all_goals (simp at h; simp [h])
  omega
theorem within (a lo hi : Int) : ConS Try.prog 48 [.i a, .i lo, .i hi] (.b (decide (lo ≤ a ∧ a ≤ hi))) := by
  refine conS_of hmix hTab Try.func48 rfl rfl (by kernel_rfl) (by show 3 ≤ Try.f48.ntmps; decide) rfl ?_
  refine stp ?_; try with_reducible exact True.intro
  refine Br.mk (fun h => ?_) (fun h => ?_)
  all_goals refine stp ?_; try with_reducible exact True.intro
  all_goals (simp at h; simp [h])
  omega
theorem l1Bit (b : Bool) : ConS Try.prog 115 [.b b] (.i (if b = true then 1 else 0)) := by
  refine conS_of hmix hTab Try.func115 rfl rfl (by kernel_rfl) (by show 1 ≤ Try.f115.ntmps; decide) rfl ?_
  refine stp ?_; try with_reducible exact True.intro
  refine Br.mk (fun h => ?_) (fun h => ?_)
  all_goals refine stp ?_; try with_reducible exact True.intro
  all_goals simp [h, constV]
end Go.Proofs.YtldjlonofclelaaTv
end
section
open Go Go.Proofs.YtldjlonofclelaaVe Go.Proofs.YtldjlonofclelaaTv Go.Proofs
namespace Go.Proofs.YtldjlonofclelaaTv
set_option maxRecDepth 8000
set_option maxHeartbeats 2000000
/-- A law's own checks: rows that are equal. -/
theorem ConS.toT {P : Program} {f : Nat} {args : List V} {rs : V} (h : ConS P f args rs) : ConT P f args rs [] := by
  obtain ⟨h1, h2, h3⟩ := h
  refine ⟨h2, fun m s avs hno hs hS hv => (h3 m s avs hno hs hS hv).mono fun av H' ⟨e1, e2⟩ => ⟨m, e2.symm, hS, Kp.refl m [], Fr.refl m s, ?_⟩⟩
  rw [e1]; exact scal_vt m [] rs h1
end Go.Proofs.YtldjlonofclelaaTv
end
section
open Go Go.Proofs.YtldjlonofclelaaVe Go.Proofs.YtldjlonofclelaaTv Go.Proofs
namespace Go.Proofs.YtldjlonofclelaaTv
set_option maxRecDepth 8000
set_option maxHeartbeats 2000000
/-- n, n + 1, .. -/
def marks (n : Int) (k : Nat) : List Int := (List.range k).map fun i => n + (i : Nat)
@[simp] theorem marks_length (n : Int) (k : Nat) : (marks n k).length = k := by simp [marks]
theorem marks_get (n : Int) {k i : Nat} (h : i < k) : (marks n k)[i]? = some (n + i) := by simp [marks, h]
end Go.Proofs.YtldjlonofclelaaTv
end
section
open Go Go.Proofs.YtldjlonofclelaaVe Go.Proofs.YtldjlonofclelaaTv Go.Proofs
namespace Go.Proofs.YtldjlonofclelaaTv
set_option maxRecDepth 8000
set_option maxHeartbeats 2000000
theorem drop_consR {l : List (List Int)} {i : Nat} (h : i < l.length) : l.drop i = rdR l i :: l.drop (i + 1) := by
  rw [List.drop_eq_getElem_cons h]
  simp [rdR, h]
def total : List (List Int) → Int
  | [] => 0
  | r :: rs => r.length + total rs
/-- n, n + 1, .. through all rows. -/
def marksR (n : Int) : List (List Int) → List (List Int)
  | [] => []
  | r :: rs => marks n r.length :: marksR (n + r.length) rs
@[simp] theorem marksR_length : ∀ (n : Int) (ll : List (List Int)), (marksR n ll).length = ll.length
  | _, [] => rfl
  | n, r :: rs => by simp [marksR, marksR_length]
theorem total_nonneg : ∀ ll, 0 ≤ total ll
  | [] => by simp [total]
  | r :: rs => by have := total_nonneg rs; simp only [total]; omega
theorem total_append : ∀ (l m : List (List Int)), total (l ++ m) = total l + total m
  | [], m => by simp [total]
  | r :: l, m => by simp only [List.cons_append, total, total_append l m]; omega
theorem marksR_append : ∀ (n : Int) (l m : List (List Int)), marksR n (l ++ m) = marksR n l ++ marksR (n + total l) m
  | n, [], m => by simp [marksR, total]
  | n, r :: l, m => by
    simp only [List.cons_append, marksR, marksR_append _ l m, total]
    rw [show n + (r.length : Int) + total l = n + ((r.length : Int) + total l) by omega]
theorem take_succR {l : List (List Int)} {i : Nat} (h : i < l.length) : l.take (i + 1) = l.take i ++ [rdR l i] := by
  rw [List.take_add_one]
  simp [rdR, h]
theorem total_le {ll : List (List Int)} {c : Nat} (h : ∀ r ∈ ll, r.length ≤ c) : total ll ≤ ll.length * c := by
  induction ll with
  | nil => simp [total]
  | cons r ll ih =>
    have h1 := ih fun x hx => h x (by simp [hx])
    have h2 := h r (by simp)
    simp only [total, List.length_cons, Nat.succ_mul, Int.natCast_add, Int.natCast_one, Int.add_mul]
    omega
theorem row_le_total : ∀ {ll : List (List Int)} {r : List Int}, r ∈ ll → (r.length : Int) ≤ total ll
  | q :: ll, r, h => by
    have := total_nonneg ll
    rcases List.mem_cons.1 h with rfl | h
    · simp only [total]; omega
    · have := row_le_total h
      simp only [total]; omega
end Go.Proofs.YtldjlonofclelaaTv
end
section
open Go Go.Proofs.YtldjlonofclelaaVe Go.Proofs.YtldjlonofclelaaTv Go.Proofs
namespace Go.Proofs.YtldjlonofclelaaTv
set_option maxRecDepth 8000
set_option maxHeartbeats 2000000
theorem rdR_memA {ll : List (List Int)} {j : Nat} (h : j < ll.length) : rdR ll j ∈ ll := by simp [rdR, h]
theorem rd_memA {l : List Int} {j : Nat} (h : j < l.length) : rd l j ∈ l := by simp [rd, h]
theorem drop_consA {l : List Int} {i : Nat} (h : i < l.length) : l.drop i = rd l i :: l.drop (i + 1) := by
  rw [List.drop_eq_getElem_cons h]
  simp [rd, h]
theorem drop_consB {l : List (List Int)} {i : Nat} (h : i < l.length) : l.drop i = rdR l i :: l.drop (i + 1) := by
  rw [List.drop_eq_getElem_cons h]
  simp [rdR, h]
theorem take_succA {l : List Int} {i : Nat} (h : i < l.length) : l.take (i + 1) = l.take i ++ [rd l i] := by
  rw [List.take_add_one]
  simp [rd, h]
theorem take_succB {l : List (List Int)} {i : Nat} (h : i < l.length) : l.take (i + 1) = l.take i ++ [rdR l i] := by
  rw [List.take_add_one]
  simp [rdR, h]
def isLet (x : Int) : Bool := decide (x ≠ 0) && decide (-8 ≤ x ∧ x ≤ 8)
def wordOk (w : List Int) : Bool := w.all isLet && decide (w.length ≤ 24)
def absI (x : Int) : Int := max x (-x)
theorem absI_let {x : Int} (h : isLet x = true) : 1 ≤ absI x ∧ absI x ≤ 8 := by
  simp only [isLet, Bool.and_eq_true, decide_eq_true_eq] at h
  unfold absI; omega
theorem isLetter (x : Int) : ConS Try.prog 142 [.i x] (.b (isLet x)) := by
  refine conS_of hmix hTab Try.func142 rfl rfl (by kernel_rfl) (by show 1 ≤ Try.f142.ntmps; decide) rfl ?_
  unfold isLet
  refine stp ?_; try with_reducible exact True.intro
  by_cases h : x = 0
  · subst h
    refine brF rfl ?_
    refine stp ?_; try with_reducible exact True.intro
    simp
  · refine brT (by simp [h]) ?_
    refine stp ?_; try with_reducible exact True.intro
    refine useT ((within x (-8) 8).toT) ?_; try with_reducible exact True.intro
    simp [h]
theorem l2Letter (x : Int) : ConS Try.prog 114 [.i x] (.b (isLet x)) := by
  refine conS_of hmix hTab Try.func114 rfl rfl (by kernel_rfl) (by show 1 ≤ Try.f114.ntmps; decide) rfl ?_
  unfold isLet
  refine stp ?_; try with_reducible exact True.intro
  refine useT ((l1In x 1 8).toT) ?_; try with_reducible exact True.intro
  by_cases h : 1 ≤ x ∧ x ≤ 8
  · have h0 : x ≠ 0 := by omega
    have h1 : -8 ≤ x ∧ x ≤ 8 := by omega
    simp only [h, and_self, decide_true]
    refine stp ?_; try with_reducible exact True.intro
    simp [h0, h1]
  · simp only [h, decide_false]
    refine stp ?_; try with_reducible exact True.intro
    refine useT ((l1In x (-8) (-1)).toT) ?_; try with_reducible exact True.intro
    have : decide (-8 ≤ x ∧ x ≤ -1) = (decide (x ≠ 0) && decide (-8 ≤ x ∧ x ≤ 8)) := by
      rw [← Bool.decide_and]
      exact decide_eq_decide.2 (by omega)
    rw [this]
theorem l1MaxA (a b : Int) : ConS Try.prog 120 [.i a, .i b] (.i (max a b)) := by
  refine conS_of hmix hTab Try.func120 rfl rfl (by kernel_rfl) (by show 2 ≤ Try.f120.ntmps; decide) rfl ?_
  refine stp ?_; try with_reducible exact True.intro
  refine Br.mk (fun h => ?_) (fun h => ?_) <;> simp [-Int.ofNat_toNat] at h
  · refine stp ?_; try with_reducible exact True.intro
    rw [Int.max_eq_left (by omega)]
  · refine stp ?_; try with_reducible exact True.intro
    rw [Int.max_eq_right (by omega)]
theorem l3Abs (x : Int) (h : -1000000 ≤ x ∧ x ≤ 1000000) : ConS Try.prog 75 [.i x] (.i (absI x)) := by
  refine conS_of hmix hTab Try.func75 rfl rfl (by kernel_rfl) (by show 1 ≤ Try.f75.ntmps; decide) rfl ?_
  refine stp ?_; try with_reducible exact True.intro
  refine useT ((l1MaxA x (-x)).toT) ?_; try with_reducible exact True.intro
  rfl
theorem sizeI (x : Int) (h : -1000000 ≤ x ∧ x ≤ 1000000) : ConS Try.prog 125 [.i x] (.i (absI x)) := by
  refine conS_of hmix hTab Try.func125 rfl rfl (by kernel_rfl) (by show 1 ≤ Try.f125.ntmps; decide) rfl ?_
  refine stp ?_; try with_reducible exact True.intro
  unfold absI maxI
  by_cases c : -x > x
  · rw [if_pos c, Int.max_eq_right (by omega)]
  · rw [if_neg c, Int.max_eq_left (by omega)]
theorem IsWordI (w : List Int) (hw : (w.length : Int) ≤ 274877906944) : ConS Try.prog 121 [.il w] (.b (wordOk w)) := by
  refine conS_of hmix hTab Try.func121 rfl rfl (by kernel_rfl) (by show 1 ≤ Try.f121.ntmps; decide) rfl ?_
  refine stp ?_; try with_reducible exact True.intro
  refine ⟨Nat, fun i => i ≤ w.length ∧ (w.drop i).all isLet = w.all isLet, fun i => w.length - i, fun i => [(0, .il w), (5, .il w), (6, .i w.length), (7, .i i)], fun i => [], ⟨0, (fitK [] []), by simp⟩, fun i ⟨hi, hc⟩ => ?_⟩
  dsimp only at hi hc ⊢
  refine stp ?_; try with_reducible exact True.intro
  refine Br.mk (fun h1 => ?_) (fun h1 => ?_) <;> simp [-Int.ofNat_toNat] at h1
  · rw [drop_consA h1, List.all_cons] at hc
    have hL := isLetter (rd w i)
    cases hl : isLet (rd w i) with
    | true =>
      rw [hl, Bool.true_and] at hc
      rw [hl] at hL
      refine stp ?_; try with_reducible exact True.intro
      refine useT (hL.toT) ?_; try with_reducible exact True.intro
      exact ⟨i + 1, (fitK [] []), ⟨h1, hc⟩, by first | ((try dsimp only); omega) | (simp; omega)⟩
    | false =>
      rw [hl, Bool.false_and] at hc
      rw [hl] at hL
      refine stp ?_; try with_reducible exact True.intro
      refine useT (hL.toT) ?_; try with_reducible exact True.intro
      rw [wordOk, ← hc, Bool.false_and]
  · obtain rfl : i = w.length := by omega
    rw [List.drop_length, List.all_nil] at hc
    refine stp ?_; try with_reducible exact True.intro
    rw [wordOk, ← hc, Bool.true_and]
    simp
    omega
theorem IsWordS (w : List Int) (hw : (w.length : Int) ≤ 274877906944) : ConS Try.prog 59 [.il w] (.b (wordOk w)) := by
  refine conS_of hmix hTab Try.func59 rfl rfl (by kernel_rfl) (by show 1 ≤ Try.f59.ntmps; decide) rfl ?_
  refine stp ?_; try with_reducible exact True.intro
  refine ⟨Nat, fun i => i ≤ w.length ∧ (w.drop i).all isLet = w.all isLet, fun i => w.length - i, fun i => [(0, .il w), (3, .i i)], fun i => [], ⟨0, (fitK [] []), by simp⟩, fun i ⟨hi, hc⟩ => ?_⟩
  dsimp only at hi hc ⊢
  refine stp ?_; try with_reducible exact True.intro
  refine Br.mk (fun h1 => ?_) (fun h1 => ?_) <;> simp [-Int.ofNat_toNat] at h1
  · rw [drop_consA h1, List.all_cons] at hc
    have hL := l2Letter (rd w i)
    cases hl : isLet (rd w i) with
    | true =>
      rw [hl, Bool.true_and] at hc
      rw [hl] at hL
      refine stp ?_; try with_reducible exact True.intro
      refine useT (hL.toT) ?_; try with_reducible exact True.intro
      exact ⟨i + 1, (fitK [] []), ⟨h1, hc⟩, by first | ((try dsimp only); omega) | (simp; omega)⟩
    | false =>
      rw [hl, Bool.false_and] at hc
      rw [hl] at hL
      refine stp ?_; try with_reducible exact True.intro
      refine useT (hL.toT) ?_; try with_reducible exact True.intro
      rw [wordOk, ← hc, Bool.false_and]
  · obtain rfl : i = w.length := by omega
    rw [List.drop_length, List.all_nil] at hc
    refine stp ?_; try with_reducible exact True.intro
    rw [wordOk, ← hc, Bool.true_and]
    simp
    omega
end Go.Proofs.YtldjlonofclelaaTv
end
section
open Go Go.Proofs.YtldjlonofclelaaVe Go.Proofs.YtldjlonofclelaaTv Go.Proofs
namespace Go.Proofs.YtldjlonofclelaaTv
set_option maxRecDepth 8000
set_option maxHeartbeats 2000000
def tot : List (List Int) → Nat
  | [] => 0
  | r :: rs => r.length + tot rs
theorem tot_append : ∀ (l m : List (List Int)), tot (l ++ m) = tot l + tot m
  | [], m => by simp [tot]
  | r :: l, m => by simp only [List.cons_append, tot, tot_append l m]; omega
def bmp (c : List Int) (x : Int) : List Int := c.set (absI x).toNat (rd c (absI x) + 1)
def cntW (c w : List Int) : List Int := w.foldl bmp c
def cntG (ll : List (List Int)) : List Int := ll.foldl cntW (List.replicate 9 0)
@[simp] theorem bmp_len (c : List Int) (x : Int) : (bmp c x).length = c.length := by simp [bmp]
@[simp] theorem cntW_len : ∀ (w c : List Int), (cntW c w).length = c.length
  | [], c => rfl
  | x :: w, c => by
    show (cntW (bmp c x) w).length = _
    rw [cntW_len w (bmp c x), bmp_len]
theorem cntW_succ {c w : List Int} {i : Nat} (h : i < w.length) : cntW c (w.take (i + 1)) = bmp (cntW c (w.take i)) (rd w i) := by
  unfold cntW
  rw [take_succA h, List.foldl_append]; rfl
theorem cntG_succ {ll : List (List Int)} {i : Nat} (h : i < ll.length) : cntG (ll.take (i + 1)) = cntW (cntG (ll.take i)) (rdR ll i) := by
  unfold cntG
  rw [take_succB h, List.foldl_append]; rfl
theorem cntG_len (ll : List (List Int)) : (cntG ll).length = 9 := by
  have : ∀ (l : List (List Int)) (c : List Int), (l.foldl cntW c).length = c.length := fun l => by
    induction l with
    | nil => intro c; rfl
    | cons w l ih => intro c; rw [List.foldl_cons, ih, cntW_len]
  unfold cntG
  rw [this]; simp
/-- Small counts. -/
def Cb (n : Nat) (c : List Int) : Prop := c.length = 9 ∧ ∀ i : Int, 0 ≤ rd c i ∧ rd c i ≤ n
theorem Cb.bmp {n : Nat} {c : List Int} (h : Cb n c) {x : Int} (hx : 1 ≤ absI x ∧ absI x ≤ 8) : Cb (n + 1) (bmp c x) := by
  refine ⟨by rw [bmp_len]; exact h.1, fun i => ?_⟩
  have h1 := h.2 i
  have h2 := h.2 (absI x)
  unfold Go.Proofs.YtldjlonofclelaaTv.bmp rd
  unfold rd at h1 h2
  rw [List.getD_eq_getElem?_getD, List.getElem?_set]
  rw [List.getD_eq_getElem?_getD] at h1 h2
  have h9 := h.1
  by_cases c1 : (absI x).toNat = i.toNat
  · rw [if_pos c1, if_pos (by omega)]
    simp only [Option.getD_some, List.getD_eq_getElem?_getD]
    omega
  · rw [if_neg c1]; omega
theorem Cb.zero : Cb 0 (List.replicate 9 0) := ⟨by simp, fun i => by
  unfold rd
  rw [List.getD_eq_getElem?_getD, List.getElem?_replicate]
  split <;> simp⟩
theorem Cb.le {n m : Nat} {c : List Int} (h : Cb n c) (hm : n ≤ m) : Cb m c := ⟨h.1, fun i => by have := h.2 i; omega⟩
theorem Cb.word {n : Nat} {c w : List Int} (h : Cb n c) (hw : ∀ x ∈ w, isLet x = true) : ∀ i, i ≤ w.length → Cb (n + i) (cntW c (w.take i))
  | 0, _ => by simpa [cntW] using h
  | i + 1, hi => by
    rw [cntW_succ (by omega)]
    exact (h.word hw i (by omega)).bmp (absI_let (hw _ (rd_memA (by omega))))
theorem Cb.rows {ll : List (List Int)} (hl : ∀ w ∈ ll, ∀ x ∈ w, isLet x = true) : ∀ i, i ≤ ll.length → Cb (tot (ll.take i)) (cntG (ll.take i))
  | 0, _ => by
    simp only [List.take_zero, tot, cntG, List.foldl_nil]
    exact Cb.zero
  | i + 1, hi => by
    have hm := rdR_memA (show i < ll.length by omega)
    have := (Cb.rows hl i (by omega)).word (hl _ hm) _ (Nat.le_refl _)
    rw [List.take_length, ← cntG_succ (by omega)] at this
    rw [take_succB (by omega), tot_append, ← take_succB (by omega)]
    simpa [tot] using this
theorem let_small {x : Int} (h : isLet x = true) : -1000000 ≤ x ∧ x ≤ 1000000 := by
  simp only [isLet, Bool.and_eq_true, decide_eq_true_eq] at h
  omega
theorem tot_take {ll : List (List Int)} (i : Nat) : tot (ll.take i) ≤ tot ll := by
  have := tot_append (ll.take i) (ll.drop i)
  rw [List.take_append_drop] at this
  omega
theorem letterCounts (ll : List (List Int)) (hlen : (ll.length : Int) ≤ 1048576) (hl : ∀ w ∈ ll, ∀ x ∈ w, isLet x = true) (ht : tot ll ≤ 1048576) : ConT Try.prog 130 [.ill ll] (.own 0 0 9) [.arr (.int .i64) (cntG ll) true] := by
  refine conT_of hmix hTab Try.func130 rfl rfl (by kernel_rfl) (by show 1 ≤ Try.f130.ntmps; decide) ?_
  refine stp ?_; try with_reducible exact True.intro
  refine ⟨Nat, fun i => i ≤ ll.length, fun i => ll.length - i, fun i => [(3, .own 0 0 9), (9, .ill ll), (10, .i ll.length), (11, .i i)], fun i => [.arr (.int .i64) (cntG (ll.take i)) true], ⟨0, (fitK [] [0]), Nat.zero_le _⟩, fun i hi => ?_⟩
  dsimp only at hi ⊢
  have hb := Cb.rows hl i hi
  have hc9 := cntG_len (ll.take i)
  refine stp ?_; try with_reducible exact True.intro
  refine Br.mk (fun h1 => ?_) (fun h1 => ?_) <;> simp [-Int.ofNat_toNat] at h1
  · have hm := rdR_memA h1
    have hlw := hl _ hm
    have hsu := cntG_succ h1
    have htt : tot (ll.take i) + (rdR ll i).length ≤ tot ll := by
      have := tot_take (ll := ll) (i + 1)
      rw [take_succB h1, tot_append] at this
      simpa [tot] using this
    generalize cntG (ll.take i) = c at *
    refine stp ?_; try with_reducible exact True.intro
    refine ⟨Nat, fun j => j ≤ (rdR ll i).length, fun j => (rdR ll i).length - j, fun j => [(3, .own 0 0 9), (9, .ill ll), (10, .i ll.length), (11, .i i), (15, .il (rdR ll i)), (16, .i (rdR ll i).length), (17, .i j)], fun j => [.arr (.int .i64) (cntW c ((rdR ll i).take j)) true], ⟨0, (fitK [] [0]), Nat.zero_le _⟩, fun j hj => ?_⟩
    dsimp only at hj ⊢
    have hb2 := hb.word hlw j hj
    have hl2 := cntW_len ((rdR ll i).take j) c
    refine stp ?_; try with_reducible exact True.intro
    refine Br.mk (fun h2 => ?_) (fun h2 => ?_) <;> simp [-Int.ofNat_toNat] at h2
    · have hx := hlw _ (rd_memA h2)
      have hab := absI_let hx
      have hs2 := cntW_succ (c := c) h2
      have hbb := hb2.2 (absI (rd (rdR ll i) j))
      have hsz := sizeI (rd (rdR ll i) j) (let_small hx)
      unfold bmp at hs2
      generalize cntW c ((rdR ll i).take j) = d at *
      generalize absI (rd (rdR ll i) j) = ax at *
      have o1 : @Eq Int (rdT (.int .i64) d ((Int.toNat (ax) : Nat) : Int)) (rd d (ax)) := rfl
      refine stp ?_; try with_reducible exact True.intro
      refine useT (hsz.toT) ?_; try with_reducible exact True.intro
      refine ⟨j + 1, ⟨.frz [], [0], ⟨rfl, rfl, rfl, rfl, rfl, rfl, rfl, trivial⟩, ⟨?_, trivial⟩, by decide, rfl, rfl, rfl⟩, h2, by first | ((try dsimp only); omega) | (simp; omega)⟩
      rw [hs2]; rfl
    · obtain rfl : j = (rdR ll i).length := by omega
      rw [List.take_length] at *
      refine stp ?_; try with_reducible exact True.intro
      refine ⟨i + 1, ⟨.frz [], [0], ⟨rfl, rfl, rfl, rfl, trivial⟩, ⟨?_, trivial⟩, by decide, rfl, rfl, rfl⟩, h1, by first | ((try dsimp only); omega) | (simp; omega)⟩
      rw [hsu]; rfl
  · obtain rfl : i = ll.length := by omega
    rw [List.take_length] at *
    refine stp ?_; try with_reducible exact True.intro
    exact (fitK [] [0])
theorem l3Uses (ll : List (List Int)) (hlen : (ll.length : Int) ≤ 1048576) (hl : ∀ w ∈ ll, ∀ x ∈ w, isLet x = true) (ht : tot ll ≤ 1048576) : ConT Try.prog 60 [.ill ll] (.own 0 0 9) [.arr (.int .i64) (cntG ll) true] := by
  refine conT_of hmix hTab Try.func60 rfl rfl (by kernel_rfl) (by show 1 ≤ Try.f60.ntmps; decide) ?_
  refine stp ?_; try with_reducible exact True.intro
  refine ⟨Nat, fun i => i ≤ ll.length, fun i => ll.length - i, fun i => [(0, .ill ll), (3, .own 0 0 9), (4, .i i)], fun i => [.arr (.int .i64) (cntG (ll.take i)) true], ⟨0, (fitK [] [0]), Nat.zero_le _⟩, fun i hi => ?_⟩
  dsimp only at hi ⊢
  have hb := Cb.rows hl i hi
  have hc9 := cntG_len (ll.take i)
  refine stp ?_; try with_reducible exact True.intro
  refine Br.mk (fun h1 => ?_) (fun h1 => ?_) <;> simp [-Int.ofNat_toNat] at h1
  · have hm := rdR_memA h1
    have hlw := hl _ hm
    have hsu := cntG_succ h1
    have htt : tot (ll.take i) + (rdR ll i).length ≤ tot ll := by
      have := tot_take (ll := ll) (i + 1)
      rw [take_succB h1, tot_append] at this
      simpa [tot] using this
    generalize cntG (ll.take i) = c at *
    have ql : List.length (rdT (.list (.int .i64)) ll (i : Int)) = (rdR ll i).length := rfl
    refine stp ?_; try with_reducible exact True.intro
    refine ⟨Nat, fun j => j ≤ (rdR ll i).length, fun j => (rdR ll i).length - j, fun j => [(0, .ill ll), (3, .own 0 0 9), (4, .i i), (5, .i j)], fun j => [.arr (.int .i64) (cntW c ((rdR ll i).take j)) true], ⟨0, (fitK [] [0]), Nat.zero_le _⟩, fun j hj => ?_⟩
    dsimp only at hj ⊢
    have hb2 := hb.word hlw j hj
    have hl2 := cntW_len ((rdR ll i).take j) c
    refine stp ?_; try with_reducible exact True.intro
    refine Br.mk (fun h2 => ?_) (fun h2 => ?_) <;> simp [-Int.ofNat_toNat] at h2
    · replace h2 : j < (rdR ll i).length := h2
      have hx := hlw _ (rd_memA h2)
      have hab := absI_let hx
      have hs2 := cntW_succ (c := c) h2
      have hbb := hb2.2 (absI (rd (rdR ll i) j))
      have hsz := l3Abs (rd (rdR ll i) j) (let_small hx)
      unfold bmp at hs2
      generalize cntW c ((rdR ll i).take j) = d at *
      generalize absI (rd (rdR ll i) j) = ax at *
      have o1 : @Eq Int (rdT (.int .i64) d ((Int.toNat (ax) : Nat) : Int)) (rd d (ax)) := rfl
      refine stp ?_; try with_reducible exact True.intro
      refine .inl ⟨_, _, hsz, by repeat (first | exact trivial | refine ⟨by first | exact rfl | exact trivial | exact ⟨_, rfl, rfl⟩ | exact ⟨_, _, rfl, by first | (simp; done) | (simp; omega), by first | (simp; done) | (simp [List.take_of_length_le]; done) | (rw [List.drop_zero]; exact List.take_of_length_le (by first | omega | (simp; omega))) | (simp [List.take_of_length_le]; omega)⟩ | exact ⟨_, rfl, by first | (simp; done) | (simp; omega), by first | (simp; done) | (simp [List.take_of_length_le]; done) | (rw [List.drop_zero]; exact List.take_of_length_le (by first | omega | (simp; omega))) | (simp [List.take_of_length_le]; omega)⟩, ?_⟩), ?_⟩; refine stp ?_; try with_reducible exact True.intro
      refine .inl ⟨_, _, hsz, by repeat (first | exact trivial | refine ⟨by first | exact rfl | exact trivial | exact ⟨_, rfl, rfl⟩ | exact ⟨_, _, rfl, by first | (simp; done) | (simp; omega), by first | (simp; done) | (simp [List.take_of_length_le]; done) | (rw [List.drop_zero]; exact List.take_of_length_le (by first | omega | (simp; omega))) | (simp [List.take_of_length_le]; omega)⟩ | exact ⟨_, rfl, by first | (simp; done) | (simp; omega), by first | (simp; done) | (simp [List.take_of_length_le]; done) | (rw [List.drop_zero]; exact List.take_of_length_le (by first | omega | (simp; omega))) | (simp [List.take_of_length_le]; omega)⟩, ?_⟩), ?_⟩; refine stp ?_; try with_reducible exact True.intro
      refine ⟨j + 1, ⟨.frz [], [0], ⟨rfl, rfl, rfl, rfl, trivial⟩, ⟨?_, trivial⟩, by decide, rfl, rfl, rfl⟩, h2, by first | ((try dsimp only); omega) | (simp; omega)⟩
      rw [hs2]; rfl
    · replace h2 : (rdR ll i).length ≤ j := h2
      obtain rfl : j = (rdR ll i).length := by omega
      rw [List.take_length] at *
      refine stp ?_; try with_reducible exact True.intro
      refine ⟨i + 1, ⟨.frz [], [0], ⟨rfl, rfl, rfl, trivial⟩, ⟨?_, trivial⟩, by decide, rfl, rfl, rfl⟩, h1, by first | ((try dsimp only); omega) | (simp; omega)⟩
      rw [hsu]; rfl
  · obtain rfl : i = ll.length := by omega
    rw [List.take_length] at *
    refine stp ?_; try with_reducible exact True.intro
    exact (fitK [] [0])
end Go.Proofs.YtldjlonofclelaaTv
end
section
open Go Go.Proofs.YtldjlonofclelaaVe Go.Proofs.YtldjlonofclelaaTv Go.Proofs
namespace Go.Proofs.YtldjlonofclelaaTv
set_option maxRecDepth 8000
set_option maxHeartbeats 2000000
def rowG (w : List Int) : Bool := !w.isEmpty && wordOk w
def isGl (ll : List (List Int)) : Bool := ll.all rowG && (decide (1 ≤ (ll.length : Int) ∧ (ll.length : Int) ≤ 4) && (decide ((tot ll : Int) ≤ 20) && (cntG ll).all fun k => decide (k ≤ 2)))
theorem rowG_facts {w : List Int} (h : rowG w = true) : w ≠ [] ∧ wordOk w = true ∧ w.length ≤ 24 ∧ ∀ x ∈ w, isLet x = true := by
  simp only [rowG, Bool.and_eq_true, Bool.not_eq_true', List.isEmpty_eq_false_iff] at h
  have h2 := h.2
  simp only [wordOk, Bool.and_eq_true, decide_eq_true_eq, List.all_eq_true] at h2
  exact ⟨h.1, h.2, h2.2, h2.1⟩
theorem tot_le {ll : List (List Int)} (h : ∀ w ∈ ll, rowG w = true) : tot ll ≤ 24 * ll.length := by
  induction ll with
  | nil => simp [tot]
  | cons w ll ih =>
    have := ih fun q hq => h q (by simp [hq])
    have := (rowG_facts (h w (by simp))).2.2.1
    simp only [tot, List.length_cons]; omega
theorem all_two (c : List Int) : ∀ i, i ≤ c.length → ((c.drop i).all fun k => decide (k ≤ 2)) = (c.all fun k => decide (k ≤ 2)) → (c.drop i).all (fun k => decide (k ≤ 2)) = c.all fun k => decide (k ≤ 2) := fun _ _ h => h
theorem IsGluingI (ll : List (List Int)) (hlen : (ll.length : Int) ≤ 1000) (hr : ∀ w ∈ ll, (w.length : Int) ≤ 1000) : ConS Try.prog 103 [.ill ll] (.b (isGl ll)) := by
  refine conS_of hmix hTab Try.func103 rfl rfl (by kernel_rfl) (by show 1 ≤ Try.f103.ntmps; decide) rfl ?_
  refine stp ?_; try with_reducible exact True.intro
  refine useT ((within ll.length 1 4).toT) ?_; try with_reducible exact True.intro
  by_cases h4 : 1 ≤ (ll.length : Int) ∧ (ll.length : Int) ≤ 4
  · have hI : isGl ll = (ll.all rowG && (decide ((tot ll : Int) ≤ 20) && (cntG ll).all fun k => decide (k ≤ 2))) := by
      rw [isGl, decide_eq_true h4, Bool.true_and]
    rw [hI]
    simp only [h4, and_self, decide_true]
    refine stp ?_; try with_reducible exact True.intro
    refine ⟨Nat, fun i => i ≤ ll.length ∧ (∀ w ∈ ll.take i, rowG w = true) ∧ (ll.drop i).all rowG = ll.all rowG, fun i => ll.length - i, fun i => [(0, .ill ll), (3, .i (tot (ll.take i))), (12, .ill ll), (13, .i ll.length), (14, .i i)], fun i => [], ⟨0, (fitK [] []), by simp⟩, fun i ⟨hi, hok, hc⟩ => ?_⟩
    dsimp only at hi hok hc ⊢
    have htl := tot_le hok
    rw [List.length_take] at htl
    refine stp ?_; try with_reducible exact True.intro
    refine Br.mk (fun h1 => ?_) (fun h1 => ?_) <;> simp [-Int.ofNat_toNat] at h1
    · have hm := hr _ (rdR_memA h1)
      have hts : tot (ll.take (i + 1)) = tot (ll.take i) + (rdR ll i).length := by rw [take_succB h1, tot_append]; simp [tot]
      rw [drop_consB h1, List.all_cons] at hc
      have hw := IsWordI (rdR ll i) (by omega)
      have ql : List.length (rdT (.list (.int .i64)) ll (i : Int)) = (rdR ll i).length := rfl
      refine stp ?_; try with_reducible exact True.intro
      by_cases he : (rdR ll i).length = 0
      · have hrow : rowG (rdR ll i) = false := by
          rw [List.length_eq_zero_iff.1 he]; rfl
        rw [hrow, Bool.false_and] at hc
        rw [← hc, Bool.false_and]
        refine brT (decide_eq_true (by omega)) ?_
        refine stp ?_; try with_reducible exact True.intro
      · have hrow : rowG (rdR ll i) = wordOk (rdR ll i) := by
          have : (rdR ll i).isEmpty = false := by
            rw [List.isEmpty_eq_false_iff]
            exact fun e => he (by rw [e]; rfl)
          simp [rowG, this]
        refine brF (decide_eq_false (by omega)) ?_
        cases hwo : wordOk (rdR ll i) with
        | true =>
          rw [hwo] at hw hrow
          rw [hrow, Bool.true_and] at hc
          refine stp ?_; try with_reducible exact True.intro
          refine useT (hw.toT) ?_; try with_reducible exact True.intro
          refine ⟨i + 1, ⟨.frz [], [], ⟨rfl, ?_, rfl, rfl, rfl, trivial⟩, trivial, by decide, rfl, rfl, rfl⟩, ⟨h1, fun w hw2 => ?_, hc⟩, by first | ((try dsimp only); omega) | (simp; omega)⟩
          · show V.i _ = V.i _
            rw [hts]
            rfl
          rw [take_succB h1] at hw2
          rcases List.mem_append.1 hw2 with h | h
          · exact hok w h
          · rw [List.mem_singleton] at h; rw [h]; exact hrow
        | false =>
          rw [hwo] at hw hrow
          rw [hrow, Bool.false_and] at hc
          rw [← hc, Bool.false_and]
          refine stp ?_; try with_reducible exact True.intro
          refine useT (hw.toT) ?_; try with_reducible exact True.intro
    · obtain rfl : i = ll.length := by omega
      rw [List.take_length] at *
      rw [List.drop_length, List.all_nil] at hc
      rw [← hc, Bool.true_and]
      refine stp ?_; try with_reducible exact True.intro
      refine Br.mk (fun h2 => ?_) (fun h2 => ?_) <;> simp [-Int.ofNat_toNat] at h2
      · have h20 : ¬ (tot ll : Int) ≤ 20 := by omega
        refine stp ?_; try with_reducible exact True.intro
        simp [h20]
      · have h20 : (tot ll : Int) ≤ 20 := by omega
        rw [decide_eq_true h20, Bool.true_and]
        have hlc := letterCounts ll (by omega) (fun w hw => (rowG_facts (hok w hw)).2.2.2) (by omega)
        have h9 := cntG_len ll
        generalize cntG ll = c at *
        refine stp ?_; try with_reducible exact True.intro
        refine useT (hlc) ?_; try with_reducible exact True.intro
        refine ⟨Nat, fun j => j ≤ c.length ∧ ((c.drop j).all fun k => decide (k ≤ 2)) = c.all fun k => decide (k ≤ 2), fun j => c.length - j, fun j => [(34, .own 0 0 9), (35, .i 9), (36, .i j)], fun j => [.arr (.int .i64) c true], ⟨0, (fitK [] [0]), by simp⟩, fun j ⟨hj, hcj⟩ => ?_⟩
        dsimp only at hj hcj ⊢
        refine stp ?_; try with_reducible exact True.intro
        refine Br.mk (fun h3 => ?_) (fun h3 => ?_) <;> simp [-Int.ofNat_toNat] at h3
        · rw [drop_consA (by omega), List.all_cons] at hcj
          refine stp ?_; try with_reducible exact True.intro
          refine Br.mk (fun h5 => ?_) (fun h5 => ?_) <;> simp only [decide_eq_true_eq, decide_eq_false_iff_not, ne_eq, Decidable.not_not, Bool.not_eq_eq_eq_not, Bool.not_true, Bool.not_false] at h5
          · replace h5 : ¬ rd c j ≤ 2 := by
              have : @Eq Int (rdT (.int .i64) c ((Int.toNat (j : Int) : Nat) : Int)) (rd c j) := rfl
              omega
            rw [decide_eq_false h5, Bool.false_and] at hcj
            rw [← hcj]
            refine stp ?_; try with_reducible exact True.intro
          · replace h5 : rd c j ≤ 2 := by
              have : @Eq Int (rdT (.int .i64) c ((Int.toNat (j : Int) : Nat) : Int)) (rd c j) := rfl
              omega
            rw [decide_eq_true h5, Bool.true_and] at hcj
            refine stp ?_; try with_reducible exact True.intro
            exact ⟨j + 1, (fitK [] [0]), ⟨by omega, hcj⟩, by first | ((try dsimp only); omega) | (simp; omega)⟩
        · obtain rfl : j = c.length := by omega
          rw [List.drop_length, List.all_nil] at hcj
          rw [← hcj]
          refine stp ?_; try with_reducible exact True.intro
  · have hI : isGl ll = false := by rw [isGl, decide_eq_false h4, Bool.false_and, Bool.and_false]
    rw [hI]
    simp only [h4, decide_false]
    refine stp ?_; try with_reducible exact True.intro
theorem IsGluingS (ll : List (List Int)) (hlen : (ll.length : Int) ≤ 1000) (hr : ∀ w ∈ ll, (w.length : Int) ≤ 1000) : ConS Try.prog 20 [.ill ll] (.b (isGl ll)) := by
  refine conS_of hmix hTab Try.func20 rfl rfl (by kernel_rfl) (by show 1 ≤ Try.f20.ntmps; decide) rfl ?_
  refine stp ?_; try with_reducible exact True.intro
  refine ⟨Nat, fun i => i ≤ ll.length ∧ (∀ w ∈ ll.take i, rowG w = true) ∧ (ll.drop i).all rowG = ll.all rowG, fun i => ll.length - i, fun i => [(0, .ill ll), (3, .i (tot (ll.take i))), (4, .i i)], fun i => [], ⟨0, (fitK [] []), by simp⟩, fun i ⟨hi, hok, hc⟩ => ?_⟩
  dsimp only at hi hok hc ⊢
  have htl := tot_le hok
  rw [List.length_take] at htl
  refine stp ?_; try with_reducible exact True.intro
  refine Br.mk (fun h1 => ?_) (fun h1 => ?_) <;> simp [-Int.ofNat_toNat] at h1
  · have hm := hr _ (rdR_memA h1)
    have hts : tot (ll.take (i + 1)) = tot (ll.take i) + (rdR ll i).length := by rw [take_succB h1, tot_append]; simp [tot]
    rw [drop_consB h1, List.all_cons] at hc
    have hw := IsWordS (rdR ll i) (by omega)
    have ql : List.length (rdT (.list (.int .i64)) ll (i : Int)) = (rdR ll i).length := rfl
    refine stp ?_; try with_reducible exact True.intro
    by_cases he : (rdR ll i).length = 0
    · have hrow : rowG (rdR ll i) = false := by
        rw [List.length_eq_zero_iff.1 he]; rfl
      rw [hrow, Bool.false_and] at hc
      rw [isGl, ← hc, Bool.false_and]
      refine brT (decide_eq_true (by omega)) ?_
      refine stp ?_; try with_reducible exact True.intro
    · have hrow : rowG (rdR ll i) = wordOk (rdR ll i) := by
        have : (rdR ll i).isEmpty = false := by
          rw [List.isEmpty_eq_false_iff]
          exact fun e => he (by rw [e]; rfl)
        simp [rowG, this]
      refine brF (decide_eq_false (by omega)) ?_
      cases hwo : wordOk (rdR ll i) with
      | true =>
        rw [hwo] at hw hrow
        rw [hrow, Bool.true_and] at hc
        refine stp ?_; try with_reducible exact True.intro
        refine useT (hw.toT) ?_; try with_reducible exact True.intro
        refine ⟨i + 1, ⟨.frz [], [], ⟨rfl, ?_, rfl, trivial⟩, trivial, by decide, rfl, rfl, rfl⟩, ⟨h1, fun w hw2 => ?_, hc⟩, by first | ((try dsimp only); omega) | (simp; omega)⟩
        · show V.i _ = V.i _
          rw [hts]
          rfl
        rw [take_succB h1] at hw2
        rcases List.mem_append.1 hw2 with h | h
        · exact hok w h
        · rw [List.mem_singleton] at h; rw [h]; exact hrow
      | false =>
        rw [hwo] at hw hrow
        rw [hrow, Bool.false_and] at hc
        rw [isGl, ← hc, Bool.false_and]
        refine stp ?_; try with_reducible exact True.intro
        refine useT (hw.toT) ?_; try with_reducible exact True.intro
  · obtain rfl : i = ll.length := by omega
    rw [List.take_length] at *
    rw [List.drop_length, List.all_nil] at hc
    rw [isGl, ← hc, Bool.true_and]
    refine stp ?_; try with_reducible exact True.intro
    refine useT ((l1In ll.length 1 4).toT) ?_; try with_reducible exact True.intro
    by_cases h4 : 1 ≤ (ll.length : Int) ∧ (ll.length : Int) ≤ 4
    · simp only [h4, and_self, decide_true, Bool.true_and]
      refine stp ?_; try with_reducible exact True.intro
      refine Br.mk (fun h2 => ?_) (fun h2 => ?_) <;> simp [-Int.ofNat_toNat] at h2
      · have h20 : ¬ (tot ll : Int) ≤ 20 := by omega
        refine stp ?_; try with_reducible exact True.intro
        simp [h20]
      · have h20 : (tot ll : Int) ≤ 20 := by omega
        rw [decide_eq_true h20, Bool.true_and]
        have hlc := l3Uses ll (by omega) (fun w hw => (rowG_facts (hok w hw)).2.2.2) (by omega)
        have h9 := cntG_len ll
        generalize cntG ll = c at *
        refine stp ?_; try with_reducible exact True.intro
        refine useT (hlc) ?_; try with_reducible exact True.intro
        refine ⟨Nat, fun j => j ≤ c.length ∧ ((c.drop j).all fun k => decide (k ≤ 2)) = c.all fun k => decide (k ≤ 2), fun j => c.length - j, fun j => [(5, .own 0 0 9), (6, .i j)], fun j => [.arr (.int .i64) c true], ⟨0, (fitK [] [0]), by simp⟩, fun j ⟨hj, hcj⟩ => ?_⟩
        dsimp only at hj hcj ⊢
        refine stp ?_; try with_reducible exact True.intro
        refine Br.mk (fun h3 => ?_) (fun h3 => ?_) <;> simp [-Int.ofNat_toNat] at h3
        · rw [drop_consA (by omega), List.all_cons] at hcj
          refine stp ?_; try with_reducible exact True.intro
          refine Br.mk (fun h5 => ?_) (fun h5 => ?_) <;> simp only [decide_eq_true_eq, decide_eq_false_iff_not, ne_eq, Decidable.not_not, Bool.not_eq_eq_eq_not, Bool.not_true, Bool.not_false] at h5
          · replace h5 : ¬ rd c j ≤ 2 := by
              have : @Eq Int (rdT (.int .i64) c ((Int.toNat (j : Int) : Nat) : Int)) (rd c j) := rfl
              omega
            rw [decide_eq_false h5, Bool.false_and] at hcj
            rw [← hcj]
            refine stp ?_; try with_reducible exact True.intro
          · replace h5 : rd c j ≤ 2 := by
              have : @Eq Int (rdT (.int .i64) c ((Int.toNat (j : Int) : Nat) : Int)) (rd c j) := rfl
              omega
            rw [decide_eq_true h5, Bool.true_and] at hcj
            refine stp ?_; try with_reducible exact True.intro
            exact ⟨j + 1, (fitK [] [0]), ⟨by omega, hcj⟩, by first | ((try dsimp only); omega) | (simp; omega)⟩
        · obtain rfl : j = c.length := by omega
          rw [List.drop_length, List.all_nil] at hcj
          rw [← hcj]
          refine stp ?_; try with_reducible exact True.intro
    · simp only [h4, decide_false, Bool.false_and]
      refine stp ?_; try with_reducible exact True.intro
end Go.Proofs.YtldjlonofclelaaTv
end
section
open Go Go.Proofs.YtldjlonofclelaaVe Go.Proofs.YtldjlonofclelaaTv Go.Proofs
namespace Go.Proofs.YtldjlonofclelaaTv
set_option maxRecDepth 8000
set_option maxHeartbeats 2000000
def spB (s : ByteArray) (b : Int) : Nat → List ByteArray × Nat
  | 0 => ([], 0)
  | i + 1 => if byteAt s i = b then ((spB s b i).1 ++ [s.extract (spB s b i).2 i], i + 1) else spB s b i
def split (s : ByteArray) (b : Int) : List ByteArray := (spB s b s.size).1 ++ [s.extract (spB s b s.size).2 s.size]
theorem spB_le (s : ByteArray) (b : Int) : ∀ i, (spB s b i).2 ≤ i ∧ (spB s b i).1.length ≤ i
  | 0 => ⟨Nat.le_refl _, Nat.le_refl _⟩
  | i + 1 => by
    obtain ⟨h1, h2⟩ := spB_le s b i
    unfold spB
    split
    · exact ⟨Nat.le_refl _, by simp; omega⟩
    · exact ⟨by omega, by omega⟩
theorem split_len (s : ByteArray) (b : Int) : (split s b).length ≤ s.size + 1 := by
  have := (spB_le s b s.size).2
  simp [split]; omega
theorem SplitByteI (s : ByteArray) (b : Int) (hs : (s.size : Int) ≤ 1048576) : ConT Try.prog 102 [.s s, .val (.int .u8) b] (.own 0 0 (split s b).length) [.arr .str (split s b) true] := by
  refine conT_of hmix hTab Try.func102 rfl rfl (by kernel_rfl) (by show 2 ≤ Try.f102.ntmps; decide) ?_
  refine stp ?_; try with_reducible exact True.intro
  refine ⟨Nat, fun i => i ≤ s.size, fun i => s.size - i, fun i => [(0, .s s), (1, .val (.int .u8) b), (5, .own 0 0 (spB s b i).1.length), (6, .i (spB s b i).2), (10, .i s.size), (11, .i i)], fun i => [.arr .str (spB s b i).1 true], ⟨0, (fitK [] [0]), Nat.zero_le _⟩, fun i hi => ?_⟩
  dsimp only at hi ⊢
  obtain ⟨hf, hl⟩ := spB_le s b i
  have hsu : spB s b (i + 1) = if byteAt s i = b then ((spB s b i).1 ++ [s.extract (spB s b i).2 i], i + 1) else spB s b i := rfl
  have hfin : i = s.size → split s b = (spB s b i).1 ++ [s.extract (spB s b i).2 i] := fun e => by rw [e]; rfl
  generalize spB s b i = p at *
  refine stp ?_; try with_reducible exact True.intro
  refine Br.mk (fun h1 => ?_) (fun h1 => ?_) <;> simp [-Int.ofNat_toNat] at h1
  · refine stp ?_; try with_reducible exact True.intro
    refine Br.mk (fun h2 => ?_) (fun h2 => ?_) <;> simp only [decide_eq_true_eq, decide_eq_false_iff_not, ne_eq, Decidable.not_not, Bool.not_eq_eq_eq_not, Bool.not_true, Bool.not_false] at h2
    · rw [if_pos h2] at hsu
      refine stp ?_; try with_reducible exact True.intro
      refine ⟨i + 1, ⟨.frz [], [2], ⟨rfl, rfl, ?_, ?_, rfl, rfl, trivial⟩, ⟨?_, trivial⟩, by decide, rfl, rfl, rfl⟩, by first | ((try dsimp only); omega) | (simp; omega), by first | ((try dsimp only); omega) | (simp; omega)⟩ <;> rw [hsu]
      · show V.own 2 0 _ = V.own 2 0 _
        congr 1
        simp
      · rfl
      · refine congrArg (fun x => some (Obj.arr .str x true)) ?_
        simp
    · rw [if_neg h2] at hsu
      refine stp ?_; try with_reducible exact True.intro
      refine ⟨i + 1, ⟨.frz [], [0], ⟨rfl, rfl, ?_, ?_, rfl, rfl, trivial⟩, ⟨?_, trivial⟩, by decide, rfl, rfl, rfl⟩, by first | ((try dsimp only); omega) | (simp; omega), by first | ((try dsimp only); omega) | (simp; omega)⟩ <;> rw [hsu] <;> rfl
  · obtain rfl : i = s.size := by omega
    rw [hfin rfl]
    refine stp ?_; try with_reducible exact True.intro
    refine ⟨.frz [], [2], ⟨?_, trivial⟩, ⟨?_, trivial⟩, by decide, rfl, rfl, rfl⟩
    · show V.own 2 0 _ = V.own 2 0 _
      congr 1
      simp
    · refine congrArg (fun x => some (Obj.arr .str x true)) ?_
      simp
theorem SplitByteS (s : ByteArray) (b : Int) (hs : (s.size : Int) ≤ 1048576) : ConT Try.prog 104 [.s s, .val (.int .u8) b] (.own 0 0 (split s b).length) [.arr .str (split s b) true] := by
  refine conT_of hmix hTab Try.func104 rfl rfl (by kernel_rfl) (by show 2 ≤ Try.f104.ntmps; decide) ?_
  refine stp ?_; try with_reducible exact True.intro
  refine ⟨Nat, fun i => i ≤ s.size + 1, fun i => s.size + 1 - i, fun i => [(0, .s s), (1, .val (.int .u8) b), (5, .own 0 0 (if i ≤ s.size then (spB s b i).1 else split s b).length), (6, .i (if i ≤ s.size then (spB s b i).2 else s.size + 1 : Nat)), (7, .i i)], fun i => [.arr .str (if i ≤ s.size then (spB s b i).1 else split s b) true], ⟨0, (fitK [] [0]), Nat.zero_le _⟩, fun i hi => ?_⟩
  dsimp only at hi ⊢
  by_cases hc : i ≤ s.size
  · simp only [hc, if_true]
    obtain ⟨hf, hl⟩ := spB_le s b i
    have hsu : spB s b (i + 1) = if byteAt s i = b then ((spB s b i).1 ++ [s.extract (spB s b i).2 i], i + 1) else spB s b i := rfl
    have hfin : i = s.size → split s b = (spB s b i).1 ++ [s.extract (spB s b i).2 i] := fun e => by rw [e]; rfl
    generalize spB s b i = p at *
    refine stp ?_; try with_reducible exact True.intro
    refine brT (decide_eq_true (by omega)) ?_
    refine stp ?_; try with_reducible exact True.intro
    by_cases he : i = s.size
    · have hn : ¬ i + 1 ≤ s.size := by omega
      refine brT (decide_eq_true (by omega)) ?_
      refine stp ?_; try with_reducible exact True.intro
      refine ⟨i + 1, ⟨.frz [], [2], ⟨rfl, rfl, ?_, ?_, rfl, trivial⟩, ⟨?_, trivial⟩, by decide, rfl, rfl, rfl⟩, by first | ((try dsimp only); omega) | (simp; omega), by first | ((try dsimp only); omega) | (simp; omega)⟩ <;> simp only [hn, if_false] <;> first | (rw [hfin he]) | skip
      · show V.own 2 0 _ = V.own 2 0 _
        congr 1
        simp
      · show V.i _ = V.i _
        congr 1
        omega
      · refine congrArg (fun x => some (Obj.arr .str x true)) ?_
        simp
    · have hn : i + 1 ≤ s.size := by omega
      refine brF (decide_eq_false (by omega)) ?_
      refine stp ?_; try with_reducible exact True.intro
      refine Br.mk (fun h2 => ?_) (fun h2 => ?_) <;> simp only [decide_eq_true_eq, decide_eq_false_iff_not, ne_eq, Decidable.not_not, Bool.not_eq_eq_eq_not, Bool.not_true, Bool.not_false] at h2
      · rw [if_pos h2] at hsu
        refine stp ?_; try with_reducible exact True.intro
        refine ⟨i + 1, ⟨.frz [], [2], ⟨rfl, rfl, ?_, ?_, rfl, trivial⟩, ⟨?_, trivial⟩, by decide, rfl, rfl, rfl⟩, by first | ((try dsimp only); omega) | (simp; omega), by first | ((try dsimp only); omega) | (simp; omega)⟩ <;> simp only [hn, if_true] <;> rw [hsu]
        · show V.own 2 0 _ = V.own 2 0 _
          congr 1
          simp
        · rfl
        · refine congrArg (fun x => some (Obj.arr .str x true)) ?_
          simp
      · rw [if_neg h2] at hsu
        refine stp ?_; try with_reducible exact True.intro
        refine ⟨i + 1, ⟨.frz [], [0], ⟨rfl, rfl, ?_, ?_, rfl, trivial⟩, ⟨?_, trivial⟩, by decide, rfl, rfl, rfl⟩, by first | ((try dsimp only); omega) | (simp; omega), by first | ((try dsimp only); omega) | (simp; omega)⟩ <;> simp only [hn, if_true] <;> rw [hsu] <;> rfl
  · simp only [hc, if_false]
    have hl := split_len s b
    generalize split s b = p at *
    refine stp ?_; try with_reducible exact True.intro
    refine brF (decide_eq_false (by omega)) ?_
    refine stp ?_; try with_reducible exact True.intro
    exact (fitK [] [0])
def letC (c : Int) : Option Int := if 97 ≤ c ∧ c ≤ 104 then some (c - 96) else if 65 ≤ c ∧ c ≤ 72 then some (64 - c) else none
def lets (s : ByteArray) : Nat → Option (List Int)
  | 0 => some []
  | i + 1 => match lets s i, letC (byteAt s i) with
    | some l, some x => some (l ++ [x])
    | _, _ => none
theorem lets_len (s : ByteArray) : ∀ (i : Nat) (l : List Int), lets s i = some l → l.length = i
  | 0, l, h => by
    injection h with h
    rw [← h]; rfl
  | i + 1, l, h => by
    unfold lets at h
    split at h
    · rename_i l0 x h1 h2
      injection h with h
      have := lets_len s i l0 h1
      rw [← h]; simp [this]
    · cases h
theorem lets_none (s : ByteArray) {i : Nat} (h : lets s i = none) : ∀ j, i ≤ j → lets s j = none
  | 0, hj => by
    obtain rfl : i = 0 := by omega
    exact h
  | j + 1, hj => by
    by_cases e : i = j + 1
    · rw [← e]; exact h
    · rw [lets, lets_none s h j (by omega)]
def isDash (s : ByteArray) : Bool := s.toList == (ByteArray.mk #[45]).toList
def parseW (s : ByteArray) : Option (List Int) := match isDash s with
  | true => some []
  | false => match lets s s.size with
    | some l => if l.length = 0 ∨ 24 < l.length then none else some l
    | none => none
theorem byteAt_rng (s : ByteArray) (i : Int) : 0 ≤ byteAt s i ∧ byteAt s i ≤ 255 := by
  unfold byteAt
  cases h : s.data[i.toNat]? with
  | none => simp
  | some c =>
    have := c.toNat_lt
    simp; omega
def resW : Option (List Int) → V
  | some l => .tup [.own 0 0 l.length, .b true]
  | none => .tup [.nil .unit, .b false]
def obW : Option (List Int) → List Obj
  | some l => [.arr (.int .i64) l true]
  | none => []
def resW0 : Option (List Int) → V
  | some l => .tup [.own 0 0 l.length, .b true]
  | none => .tup [.own 0 0 0, .b false]
def obW0 : Option (List Int) → List Obj
  | some l => [.arr (.int .i64) l true]
  | none => [.arr (.int .i64) [] true]
theorem isDash_empty (s : ByteArray) (h : s.size = 0) : isDash s = false := by
  unfold isDash
  rw [ByteArray.toList_eq, ByteArray.toList_eq]
  have : s.data.toList = [] := List.eq_nil_of_length_eq_zero (by simpa using h)
  rw [this]; rfl
theorem empty_eq (s : ByteArray) : (s.toList == (ByteArray.mk #[]).toList) = decide (s.size = 0) := by
  rw [ByteArray.toList_eq, ByteArray.toList_eq]
  by_cases h : s.size = 0
  · have : s.data.toList = [] := List.eq_nil_of_length_eq_zero (by simpa using h)
    rw [this, decide_eq_true h]; rfl
  · have : s.data.toList ≠ [] := fun e => h (by
      have := congrArg List.length e
      simpa using this)
    rw [decide_eq_false h]
    simpa using this
theorem ParseWordI (s : ByteArray) (hs : (s.size : Int) ≤ 1000) : ConT Try.prog 54 [.s s] (resW (parseW s)) (obW (parseW s)) := by
  refine conT_of hmix hTab Try.func54 rfl rfl (by kernel_rfl) (by show 1 ≤ Try.f54.ntmps; decide) ?_
  refine stp ?_; try with_reducible exact True.intro
  change Br (isDash s) _ _
  cases hd : isDash s with
  | true =>
    have hp : parseW s = some [] := by rw [parseW, hd]
    rw [hp]
    refine brT rfl ?_
    refine stp ?_; try with_reducible exact True.intro
    exact (fitK [] [0])
  | false =>
    have hp : parseW s = match lets s s.size with
      | some l => if l.length = 0 ∨ 24 < l.length then none else some l
      | none => none := by
      rw [parseW, hd]
      try (cases lets s s.size <;> rfl)
    refine brF rfl ?_
    refine stp ?_; try with_reducible exact True.intro
    refine ⟨Nat × List Int, fun a => a.1 ≤ s.size ∧ lets s a.1 = some a.2, fun a => s.size - a.1, fun a => [(0, .s s), (4, .own 0 0 a.2.length), (12, .i s.size), (13, .i a.1)], fun a => [.arr (.int .i64) a.2 true], ⟨(0, []), (fitK [] [0]), Nat.zero_le _, rfl⟩, fun ⟨i, l⟩ ⟨hi, hl⟩ => ?_⟩
    dsimp only at hi hl ⊢
    have hll := lets_len s i l hl
    refine stp ?_; try with_reducible exact True.intro
    refine Br.mk (fun h1 => ?_) (fun h1 => ?_) <;> simp [-Int.ofNat_toNat] at h1
    · have hb := byteAt_rng s i
      have hsu : lets s (i + 1) = match letC (byteAt s i) with
        | some x => some (l ++ [x])
        | none => none := by
        rw [lets, hl]
        cases letC (byteAt s i) <;> rfl
      have hbad : letC (byteAt s i) = none → parseW s = none := fun e => by
        rw [hp, lets_none s (by rw [hsu, e]) s.size (by omega)]
      have hgood : ∀ x, letC (byteAt s i) = some x → lets s (i + 1) = some (l ++ [x]) := fun x e => by rw [hsu, e]
      unfold letC at hbad hgood
      by_cases hA : 97 ≤ byteAt s i ∧ byteAt s i ≤ 104
      · replace hgood := hgood _ (by rw [if_pos hA])
        have w2 : IntKind.wrap .i64 (IntKind.wrap .u8 (byteAt s i - 97)) = byteAt s i - 97 := by
          rw [IntWalk.u8_in _ (by omega), IntWalk.i64_in _ (by omega)]
        refine stp ?_; try with_reducible exact True.intro
        refine brT (decide_eq_true (by omega)) ?_
        refine stp ?_; try with_reducible exact True.intro
        refine brT (decide_eq_true (by omega)) ?_
        refine stp ?_; try with_reducible exact True.intro
        refine ⟨(i + 1, l ++ [byteAt s i - 96]), ⟨.frz [], [2], ⟨rfl, ?_, rfl, rfl, trivial⟩, ⟨?_, trivial⟩, by decide, rfl, rfl, rfl⟩, ⟨h1, hgood⟩, by first | ((try dsimp only); omega) | (simp; omega)⟩
        · show V.own 2 0 _ = V.own 2 0 _
          congr 1
          simp
        · refine congrArg (fun x => some (Obj.arr (.int .i64) x true)) ?_
          simp [w2, List.take_of_length_le]
          exact (by omega : byteAt s i - 97 + 1 = byteAt s i - 96)
      · rw [if_neg hA] at hbad hgood
        by_cases hB : 65 ≤ byteAt s i ∧ byteAt s i ≤ 72
        · replace hgood := hgood _ (by rw [if_pos hB])
          have w2 : IntKind.wrap .i64 (IntKind.wrap .u8 (byteAt s i - 65)) = byteAt s i - 65 := by
            rw [IntWalk.u8_in _ (by omega), IntWalk.i64_in _ (by omega)]
          refine stp ?_; try with_reducible exact True.intro
          refine brF (decide_eq_false (by omega)) ?_
          refine stp ?_; try with_reducible exact True.intro
          refine brT (decide_eq_true (by omega)) ?_
          refine stp ?_; try with_reducible exact True.intro
          refine brT (decide_eq_true (by omega)) ?_
          refine stp ?_; try with_reducible exact True.intro
          refine ⟨(i + 1, l ++ [64 - byteAt s i]), ⟨.frz [], [2], ⟨rfl, ?_, rfl, rfl, trivial⟩, ⟨?_, trivial⟩, by decide, rfl, rfl, rfl⟩, ⟨h1, hgood⟩, by first | ((try dsimp only); omega) | (simp; omega)⟩
          · show V.own 2 0 _ = V.own 2 0 _
            congr 1
            simp
          · refine congrArg (fun x => some (Obj.arr (.int .i64) x true)) ?_
            simp [w2, List.take_of_length_le]
            exact (by omega : -(byteAt s i - 65) - 1 = 64 - byteAt s i)
        · rw [if_neg hB] at hbad
          rw [hbad rfl]
          refine stp ?_; try with_reducible exact True.intro
          by_cases h97 : 97 ≤ byteAt s i
          · refine brT (decide_eq_true (by omega)) ?_
            refine stp ?_; try with_reducible exact True.intro
            refine brF (decide_eq_false (by omega)) ?_
            refine stp ?_; try with_reducible exact True.intro
            refine brT (decide_eq_true (by omega)) ?_
            refine stp ?_; try with_reducible exact True.intro
            refine brF (decide_eq_false (by omega)) ?_
            refine stp ?_; try with_reducible exact True.intro
            exact (fitK [] [])
          · refine brF (decide_eq_false (by omega)) ?_
            refine stp ?_; try with_reducible exact True.intro
            by_cases h65 : 65 ≤ byteAt s i
            · refine brT (decide_eq_true (by omega)) ?_
              refine stp ?_; try with_reducible exact True.intro
              refine brF (decide_eq_false (by omega)) ?_
              refine stp ?_; try with_reducible exact True.intro
              exact (fitK [] [])
            · refine brF (decide_eq_false (by omega)) ?_
              refine stp ?_; try with_reducible exact True.intro
              exact (fitK [] [])
    · obtain rfl : i = s.size := by omega
      rw [hl] at hp
      simp only at hp
      refine stp ?_; try with_reducible exact True.intro
      rw [empty_eq]
      by_cases h0 : s.size = 0
      · rw [if_pos (.inl (by omega))] at hp
        rw [hp]
        refine brT (decide_eq_true h0) ?_
        refine stp ?_; try with_reducible exact True.intro
        exact (fitK [] [])
      · refine brF (decide_eq_false h0) ?_
        refine stp ?_; try with_reducible exact True.intro
        refine Br.mk (fun h5 => ?_) (fun h5 => ?_) <;> simp [-Int.ofNat_toNat] at h5
        · rw [if_pos (.inr (by omega))] at hp
          rw [hp]
          refine stp ?_; try with_reducible exact True.intro
          exact (fitK [] [])
        · rw [if_neg (by omega)] at hp
          rw [hp]
          refine stp ?_; try with_reducible exact True.intro
          exact (fitK [] [0])
end Go.Proofs.YtldjlonofclelaaTv
end
section
open Go Go.Proofs.YtldjlonofclelaaVe Go.Proofs.YtldjlonofclelaaTv Go.Proofs
namespace Go.Proofs.YtldjlonofclelaaTv
set_option maxRecDepth 8000
set_option maxHeartbeats 2000000
theorem ParseWordS (s : ByteArray) (hs : (s.size : Int) ≤ 1000) : ConT Try.prog 55 [.s s] (resW0 (parseW s)) (obW0 (parseW s)) := by
  refine conT_of hmix hTab Try.func55 rfl rfl (by kernel_rfl) (by show 1 ≤ Try.f55.ntmps; decide) ?_
  refine stp ?_; try with_reducible exact True.intro
  change Br (isDash s) _ _
  cases hd : isDash s with
  | true =>
    have hp : parseW s = some [] := by rw [parseW, hd]
    rw [hp]
    refine brT rfl ?_
    refine stp ?_; try with_reducible exact True.intro
    exact (fitK [] [0])
  | false =>
    have hp : parseW s = match lets s s.size with
      | some l => if l.length = 0 ∨ 24 < l.length then none else some l
      | none => none := by
      rw [parseW, hd]
      try (cases lets s s.size <;> rfl)
    refine brF rfl ?_
    refine stp ?_; try with_reducible exact True.intro
    refine ⟨Nat × List Int, fun a => a.1 ≤ s.size ∧ lets s a.1 = some a.2, fun a => s.size - a.1, fun a => [(0, .s s), (4, .own 0 0 a.2.length), (5, .i a.1)], fun a => [.arr (.int .i64) a.2 true], ⟨(0, []), (fitK [] [0]), Nat.zero_le _, rfl⟩, fun ⟨i, l⟩ ⟨hi, hl⟩ => ?_⟩
    dsimp only at hi hl ⊢
    have hll := lets_len s i l hl
    refine stp ?_; try with_reducible exact True.intro
    refine Br.mk (fun h1 => ?_) (fun h1 => ?_) <;> simp [-Int.ofNat_toNat] at h1
    · have hb := byteAt_rng s i
      have hsu : lets s (i + 1) = match letC (byteAt s i) with
        | some x => some (l ++ [x])
        | none => none := by
        rw [lets, hl]
        cases letC (byteAt s i) <;> rfl
      have hbad : letC (byteAt s i) = none → parseW s = none := fun e => by
        rw [hp, lets_none s (by rw [hsu, e]) s.size (by omega)]
      have hgood : ∀ x, letC (byteAt s i) = some x → lets s (i + 1) = some (l ++ [x]) := fun x e => by rw [hsu, e]
      have w2 : IntKind.wrap .i64 (byteAt s i) = byteAt s i := IntWalk.i64_in _ (by omega)
      unfold letC at hbad hgood
      by_cases hA : 97 ≤ byteAt s i ∧ byteAt s i ≤ 104
      · replace hgood := hgood _ (by rw [if_pos hA])
        refine stp ?_; try with_reducible exact True.intro
        refine brT (decide_eq_true (by omega)) ?_
        refine stp ?_; try with_reducible exact True.intro
        refine brT (decide_eq_true (by omega)) ?_
        refine stp ?_; try with_reducible exact True.intro
        refine ⟨(i + 1, l ++ [byteAt s i - 96]), ⟨.frz [], [2], ⟨rfl, ?_, rfl, trivial⟩, ⟨?_, trivial⟩, by decide, rfl, rfl, rfl⟩, ⟨h1, hgood⟩, by first | ((try dsimp only); omega) | (simp; omega)⟩
        · show V.own 2 0 _ = V.own 2 0 _
          congr 1
          simp
        · refine congrArg (fun x => some (Obj.arr (.int .i64) x true)) ?_
          simp [w2, List.take_of_length_le]
          exact (by omega : byteAt s i - 97 + 1 = byteAt s i - 96)
      · rw [if_neg hA] at hbad hgood
        by_cases hB : 65 ≤ byteAt s i ∧ byteAt s i ≤ 72
        · replace hgood := hgood _ (by rw [if_pos hB])
          refine stp ?_; try with_reducible exact True.intro
          refine brF (decide_eq_false (by omega)) ?_
          refine stp ?_; try with_reducible exact True.intro
          refine brT (decide_eq_true (by omega)) ?_
          refine stp ?_; try with_reducible exact True.intro
          refine brT (decide_eq_true (by omega)) ?_
          refine stp ?_; try with_reducible exact True.intro
          refine ⟨(i + 1, l ++ [64 - byteAt s i]), ⟨.frz [], [2], ⟨rfl, ?_, rfl, trivial⟩, ⟨?_, trivial⟩, by decide, rfl, rfl, rfl⟩, ⟨h1, hgood⟩, by first | ((try dsimp only); omega) | (simp; omega)⟩
          · show V.own 2 0 _ = V.own 2 0 _
            congr 1
            simp
          · refine congrArg (fun x => some (Obj.arr (.int .i64) x true)) ?_
            simp [w2, List.take_of_length_le]
            exact (by omega : -(byteAt s i - 65 + 1) = 64 - byteAt s i)
        · rw [if_neg hB] at hbad
          rw [hbad rfl]
          refine stp ?_; try with_reducible exact True.intro
          by_cases h97 : 97 ≤ byteAt s i
          · refine brT (decide_eq_true (by omega)) ?_
            refine stp ?_; try with_reducible exact True.intro
            refine brF (decide_eq_false (by omega)) ?_
            refine stp ?_; try with_reducible exact True.intro
            refine brT (decide_eq_true (by omega)) ?_
            refine stp ?_; try with_reducible exact True.intro
            refine brF (decide_eq_false (by omega)) ?_
            refine stp ?_; try with_reducible exact True.intro
            exact (fitK [] [1])
          · refine brF (decide_eq_false (by omega)) ?_
            refine stp ?_; try with_reducible exact True.intro
            by_cases h65 : 65 ≤ byteAt s i
            · refine brT (decide_eq_true (by omega)) ?_
              refine stp ?_; try with_reducible exact True.intro
              refine brF (decide_eq_false (by omega)) ?_
              refine stp ?_; try with_reducible exact True.intro
              exact (fitK [] [1])
            · refine brF (decide_eq_false (by omega)) ?_
              refine stp ?_; try with_reducible exact True.intro
              exact (fitK [] [1])
    · obtain rfl : i = s.size := by omega
      rw [hl] at hp
      simp only at hp
      refine stp ?_; try with_reducible exact True.intro
      by_cases h0 : s.size = 0
      · rw [if_pos (.inl (by omega))] at hp
        rw [hp]
        refine brT (decide_eq_true (by omega)) ?_
        refine stp ?_; try with_reducible exact True.intro
        exact (fitK [] [1])
      · refine brF (decide_eq_false (by omega)) ?_
        refine stp ?_; try with_reducible exact True.intro
        refine Br.mk (fun h5 => ?_) (fun h5 => ?_) <;> simp [-Int.ofNat_toNat] at h5
        · rw [if_pos (.inr (by omega))] at hp
          rw [hp]
          refine stp ?_; try with_reducible exact True.intro
          exact (fitK [] [1])
        · rw [if_neg (by omega)] at hp
          rw [hp]
          refine stp ?_; try with_reducible exact True.intro
          exact (fitK [] [0])
/-- The words of a text; none if one is none. -/
def words (ps : List ByteArray) : Nat → Option (List (List Int))
  | 0 => some []
  | k + 1 => match words ps k, parseW (rdT .str ps k) with
    | some l, some w => some (l ++ [w])
    | _, _ => none
theorem words_none {ps : List ByteArray} {i : Nat} (h : words ps i = none) : ∀ j, i ≤ j → words ps j = none
  | 0, hj => by
    obtain rfl : i = 0 := by omega
    exact h
  | j + 1, hj => by
    by_cases e : i = j + 1
    · rw [← e]; exact h
    · rw [words, words_none h j (by omega)]
def parseG (s : ByteArray) : Option (List (List Int)) := match words (split s 32) (split s 32).length with
  | some g => if isGl g = true then some g else none
  | none => none
theorem parseW_len {s : ByteArray} {w : List Int} (h : parseW s = some w) : w.length ≤ 24 := by
  unfold parseW at h
  split at h
  · injection h with h; rw [← h]; simp
  · split at h
    · split at h
      · cases h
      · rename_i h1
        injection h with h
        rw [← h]; omega
    · cases h
theorem words_len {ps : List ByteArray} : ∀ (k : Nat) (l : List (List Int)), words ps k = some l → l.length = k ∧ ∀ w ∈ l, w.length ≤ 24
  | 0, l, h => by
    injection h with h
    rw [← h]; simp
  | k + 1, l, h => by
    unfold words at h
    split at h
    · rename_i l0 w h1 h2
      injection h with h
      obtain ⟨h3, h4⟩ := words_len k l0 h1
      rw [← h]
      refine ⟨by simp [h3], fun x hx => ?_⟩
      rcases List.mem_append.1 hx with hx | hx
      · exact h4 x hx
      · rw [List.mem_singleton] at hx; rw [hx]; exact parseW_len h2
    · cases h
theorem words_nil {ps : List ByteArray} : ∀ (k j : Nat) (l : List (List Int)), words ps k = some l → j < k → parseW (rdT .str ps j) = some (rdR l j)
  | 0, j, l, h, hj => by omega
  | k + 1, j, l, h, hj => by
    unfold words at h
    split at h
    · rename_i l0 w h1 h2
      injection h with h
      obtain ⟨h3, h4⟩ := words_len k l0 h1
      rw [← h]
      by_cases e : j = k
      · subst e
        rw [h2]
        congr 1
        simp [rdR, ← h3]
      · rw [words_nil k j l0 h1 (by omega)]
        congr 1
        simp [rdR, List.getElem?_append_left (show j < l0.length by omega)]
    · cases h
def resG : Option (List (List Int)) → V
  | some l => .tup [.own 0 0 l.length, .b true]
  | none => .tup [.nil .unit, .b false]
def obG : Option (List (List Int)) → List Obj
  | some l => [.arr (.list (.int .i64)) l true]
  | none => []
def resG0 : Option (List (List Int)) → V
  | some l => .tup [.own 0 0 l.length, .b true]
  | none => .tup [.own 0 0 0, .b false]
def obG0 : Option (List (List Int)) → List Obj
  | some l => [.arr (.list (.int .i64)) l true]
  | none => [.arr (.list (.int .i64)) [] true]
end Go.Proofs.YtldjlonofclelaaTv
end
section
open Go Go.Proofs.YtldjlonofclelaaVe Go.Proofs.YtldjlonofclelaaTv Go.Proofs
namespace Go.Proofs.YtldjlonofclelaaTv
set_option maxRecDepth 8000
set_option maxHeartbeats 2000000
theorem ext_size (s : ByteArray) (a b : Nat) : (s.extract a b).size ≤ s.size := by
  simp [ByteArray.size_extract]; omega
theorem split_size {s : ByteArray} {b : Int} : ∀ q ∈ split s b, q.size ≤ s.size := fun q hq => by
  have : ∀ i, ∀ q ∈ (spB s b i).1, q.size ≤ s.size := fun i => by
    induction i with
    | zero => intro q hq; cases hq
    | succ i ih =>
      intro q hq
      unfold spB at hq
      split at hq
      · rcases List.mem_append.1 hq with h | h
        · exact ih q h
        · rw [List.mem_singleton] at h; rw [h]; exact ext_size _ _ _
      · exact ih q hq
  rcases List.mem_append.1 hq with h | h
  · exact this _ q h
  · rw [List.mem_singleton] at h; rw [h]; exact ext_size _ _ _
theorem ParseGluingI (s : ByteArray) (hs : s.size ≤ 24) : ConT Try.prog 49 [.s s] (resG (parseG s)) (obG (parseG s)) := by
  refine conT_of hmix hTab Try.func49 rfl rfl (by kernel_rfl) (by show 1 ≤ Try.f49.ntmps; decide) ?_
  have hsp := SplitByteI s 32 (by omega)
  have hlen := split_len s 32
  have hsz := split_size (s := s) (b := 32)
  have hp : parseG s = match words (split s 32) (split s 32).length with
    | some g => if isGl g = true then some g else none
    | none => none := rfl
  generalize split s 32 = ps at *
  refine stp ?_; try with_reducible exact True.intro
  refine brF (decide_eq_false (by omega)) ?_
  refine stp ?_; try with_reducible exact True.intro
  refine Or.inl ?_; refine stp ?_; try with_reducible exact True.intro
  refine useT (hsp) ?_; try with_reducible exact True.intro
  refine ⟨Nat × List (List Int), fun a => a.1 ≤ ps.length ∧ words ps a.1 = some a.2, fun a => ps.length - a.1, fun a => [(4, .own 0 0 a.2.length), (14, .own 1 0 ps.length), (15, .i ps.length), (16, .i a.1)], fun a => [.arr (.list (.int .i64)) a.2 true, .arr .str ps true], ⟨(0, []), (fitK [] [0, 1]), Nat.zero_le _, rfl⟩, fun ⟨k, l⟩ ⟨hk, hl⟩ => ?_⟩
  dsimp only at hk hl ⊢
  obtain ⟨hll, hlr⟩ := words_len k l hl
  refine stp ?_; try with_reducible exact True.intro
  refine Br.mk (fun h1 => ?_) (fun h1 => ?_) <;> simp [-Int.ofNat_toNat] at h1
  · have hq := hsz (rdT .str ps k) (by simp [h1])
    have hw := ParseWordI (rdT .str ps k) (by omega)
    have hsu : words ps (k + 1) = match parseW (rdT .str ps k) with
      | some w => some (l ++ [w])
      | none => none := by
      rw [words, hl]
      cases parseW (rdT .str ps k) <;> rfl
    cases hpw : parseW (rdT .str ps k) with
    | none =>
      rw [hpw] at hw hsu
      rw [words_none hsu ps.length h1] at hp
      rw [hp]
      simp only [resW, obW] at hw
      refine stp ?_; try with_reducible exact True.intro
      refine useT (hw) ?_; try with_reducible exact True.intro
      exact (fitK [] [])
    | some w =>
      rw [hpw] at hw hsu
      simp only [resW, obW] at hw
      refine stp ?_; try with_reducible exact True.intro
      refine useT (hw) ?_; try with_reducible exact True.intro
      refine Or.inl ⟨_, rfl, rfl, by first | rfl | (simp; done) | (simp; omega), ?_⟩; refine stp ?_; try with_reducible exact True.intro
      refine Or.inl ⟨_, _, rfl, rfl, by decide, rfl, by first | rfl | omega | (simp; done) | (simp; omega), rfl, by first | rfl | omega | (simp; done) | (simp; omega), by first | omega | (simp; omega), ?_⟩; refine stp ?_; try with_reducible exact True.intro
      refine ⟨(k + 1, l ++ [w]), ⟨.frz [], [4, 1], ⟨?_, rfl, rfl, rfl, trivial⟩, ⟨rfl, rfl, trivial⟩, by decide, rfl, rfl, rfl⟩, ⟨h1, hsu⟩, by first | ((try dsimp only); omega) | (simp; omega)⟩
      show V.own 4 0 _ = V.own 4 0 _
      congr 1
      simp
  · obtain rfl : k = ps.length := by omega
    rw [hl] at hp
    simp only at hp
    have hg := IsGluingI l (by omega) (fun w hw => by have := hlr w hw; omega)
    refine stp ?_; try with_reducible exact True.intro
    refine useT (hg.toT) ?_; try with_reducible exact True.intro
    cases hgl : isGl l with
    | true =>
      rw [hgl, if_pos rfl] at hp
      rw [hp]
      refine brF rfl ?_
      refine stp ?_; try with_reducible exact True.intro
      exact (fitK [] [0])
    | false =>
      rw [hgl, if_neg (by simp)] at hp
      rw [hp]
      refine brT rfl ?_
      refine stp ?_; try with_reducible exact True.intro
      exact (fitK [] [])
theorem ParseGluingS (s : ByteArray) (hs : s.size ≤ 24) : ConT Try.prog 50 [.s s] (resG0 (parseG s)) (obG0 (parseG s)) := by
  refine conT_of hmix hTab Try.func50 rfl rfl (by kernel_rfl) (by show 1 ≤ Try.f50.ntmps; decide) ?_
  have hsp := SplitByteS s 32 (by omega)
  have hlen := split_len s 32
  have hsz := split_size (s := s) (b := 32)
  have hp : parseG s = match words (split s 32) (split s 32).length with
    | some g => if isGl g = true then some g else none
    | none => none := rfl
  generalize split s 32 = ps at *
  refine stp ?_; try with_reducible exact True.intro
  refine Or.inl ?_; refine stp ?_; try with_reducible exact True.intro
  refine useT (hsp) ?_; try with_reducible exact True.intro
  refine ⟨Nat × List (List Int), fun a => a.1 ≤ ps.length ∧ words ps a.1 = some a.2 ∧ ∀ w ∈ a.2, w ≠ [], fun a => ps.length - a.1, fun a => [(4, .own 0 0 a.2.length), (5, .own 1 0 ps.length), (6, .i a.1)], fun a => [.arr (.list (.int .i64)) a.2 true, .arr .str ps true], ⟨(0, []), (fitK [] [0, 1]), Nat.zero_le _, rfl, by simp⟩, fun ⟨k, l⟩ ⟨hk, hl, hne⟩ => ?_⟩
  dsimp only at hk hl hne ⊢
  obtain ⟨hll, hlr⟩ := words_len k l hl
  refine stp ?_; try with_reducible exact True.intro
  refine Br.mk (fun h1 => ?_) (fun h1 => ?_) <;> simp [-Int.ofNat_toNat] at h1
  · have hq := hsz (rdT .str ps k) (by simp [h1])
    have hw := ParseWordS (rdT .str ps k) (by omega)
    have hsu : words ps (k + 1) = match parseW (rdT .str ps k) with
      | some w => some (l ++ [w])
      | none => none := by
      rw [words, hl]
      cases parseW (rdT .str ps k) <;> rfl
    cases hpw : parseW (rdT .str ps k) with
    | none =>
      rw [hpw] at hw hsu
      rw [words_none hsu ps.length h1] at hp
      rw [hp]
      simp only [resW0, obW0] at hw
      refine stp ?_; try with_reducible exact True.intro
      refine useT (hw) ?_; try with_reducible exact True.intro
      refine Or.inl ?_; refine stp ?_; try with_reducible exact True.intro
      exact (fitK [] [3])
    | some w =>
      rw [hpw] at hw hsu
      simp only [resW0, obW0] at hw
      refine stp ?_; try with_reducible exact True.intro
      refine useT (hw) ?_; try with_reducible exact True.intro
      by_cases he : w = []
      · have hbad : parseG s = none := by
          rw [hp]
          cases hws : words ps ps.length with
          | none => rfl
          | some g =>
            have hn := words_nil ps.length k g hws h1
            rw [hpw] at hn
            injection hn with hn
            have hgl := (words_len ps.length g hws).1
            have hm : rdR g k ∈ g := rdR_memA (by omega)
            have : isGl g = false := by
              cases hg : isGl g with
              | false => rfl
              | true =>
                simp only [isGl, Bool.and_eq_true, List.all_eq_true] at hg
                exact absurd (he.symm.trans hn).symm (rowG_facts (hg.1 _ hm)).1
            simp [this]
        rw [hbad]
        subst he
        refine brT rfl ?_
        refine stp ?_; try with_reducible exact True.intro
        refine Or.inl ?_; refine stp ?_; try with_reducible exact True.intro
        exact (fitK [] [3])
      · have hwl : w.length ≠ 0 := fun c => he (List.length_eq_zero_iff.1 c)
        refine brF (decide_eq_false (by omega)) ?_
        refine stp ?_; try with_reducible exact True.intro
        refine Or.inl ⟨_, rfl, rfl, by first | rfl | (simp; done) | (simp; omega), ?_⟩; refine stp ?_; try with_reducible exact True.intro
        refine Or.inl ⟨_, _, rfl, rfl, by decide, rfl, by first | rfl | omega | (simp; done) | (simp; omega), rfl, by first | rfl | omega | (simp; done) | (simp; omega), by first | omega | (simp; omega), ?_⟩; refine stp ?_; try with_reducible exact True.intro
        refine ⟨(k + 1, l ++ [w]), ⟨.frz [], [4, 1], ⟨?_, rfl, rfl, trivial⟩, ⟨rfl, rfl, trivial⟩, by decide, rfl, rfl, rfl⟩, ⟨h1, hsu, fun x hx => ?_⟩, by first | ((try dsimp only); omega) | (simp; omega)⟩
        · show V.own 4 0 _ = V.own 4 0 _
          congr 1
          simp
        · rcases List.mem_append.1 hx with hx | hx
          · exact hne x hx
          · rw [List.mem_singleton] at hx; rw [hx]; exact he
  · obtain rfl : k = ps.length := by omega
    rw [hl] at hp
    simp only at hp
    have hg := IsGluingS l (by omega) (fun w hw => by have := hlr w hw; omega)
    refine stp ?_; try with_reducible exact True.intro
    refine useT (hg.toT) ?_; try with_reducible exact True.intro
    cases hgl : isGl l with
    | true =>
      rw [hgl, if_pos rfl] at hp
      rw [hp]
      refine brF rfl ?_
      refine stp ?_; try with_reducible exact True.intro
      exact (fitK [] [0])
    | false =>
      rw [hgl, if_neg (by simp)] at hp
      rw [hp]
      refine brT rfl ?_
      refine stp ?_; try with_reducible exact True.intro
      refine Or.inl ?_; refine stp ?_; try with_reducible exact True.intro
      exact (fitK [] [2])
end Go.Proofs.YtldjlonofclelaaTv
end
section
open Go Go.Proofs.YtldjlonofclelaaVe Go.Proofs.YtldjlonofclelaaTv Go.Proofs
namespace Go.Proofs.YtldjlonofclelaaTv
set_option maxRecDepth 8000
set_option maxHeartbeats 2000000
def exT : List ByteArray := [⟨#[97, 98, 65, 66]⟩, ⟨#[97, 98, 65, 66, 99, 100, 67, 68]⟩, ⟨#[97, 97, 98, 98]⟩, ⟨#[97, 98, 99, 65, 66, 67]⟩, ⟨#[97, 98, 65, 99, 32, 100, 67, 98, 68]⟩, ⟨#[97, 97, 98, 99, 66, 67]⟩]
def exText (k : Int) : ByteArray := if 1 ≤ k ∧ k ≤ 6 then rdT .str exT (k - 1) else ⟨#[]⟩
theorem exText_small (k : Int) : (exText k).size ≤ 24 := by
  unfold exText
  split
  · have : k = 1 ∨ k = 2 ∨ k = 3 ∨ k = 4 ∨ k = 5 ∨ k = 6 := by omega
    rcases this with rfl | rfl | rfl | rfl | rfl | rfl <;> decide
  · decide
theorem parseG_empty : parseG ⟨#[]⟩ = none := by decide +kernel
def exG (k : Int) : Option (List (List Int)) := parseG (exText k)
theorem l23Text (k : Int) : ConT Try.prog 51 [.val (.list .str) exT, .i k] (.s (exText k)) [] := by
  refine conT_of hmix hTab Try.func51 rfl rfl (by kernel_rfl) (by show 2 ≤ Try.f51.ntmps; decide) ?_
  refine stp ?_; try with_reducible exact True.intro
  refine useT ((l1In k 1 6).toT) ?_; try with_reducible exact True.intro
  by_cases h : 1 ≤ k ∧ k ≤ 6
  · have he : exText k = rdT .str exT (k - 1) := if_pos h
    have hl : List.length exT = 6 := rfl
    rw [he]
    simp only [h, and_self, decide_true]
    refine stp ?_; try with_reducible exact True.intro
    exact (fitK [] [])
  · have he : exText k = ⟨#[]⟩ := if_neg h
    rw [he]
    simp only [h, decide_false]
    refine stp ?_; try with_reducible exact True.intro
    exact (fitK [] [])
theorem ExampleGluingS (k : Int) : ConT Try.prog 8 [.i k] (resG0 (exG k)) (obG0 (exG k)) := by
  refine conT_of hmix hTab Try.func8 rfl rfl (by kernel_rfl) (by show 1 ≤ Try.f8.ntmps; decide) ?_
  have hp := ParseGluingS (exText k) (exText_small k)
  have he : exG k = parseG (exText k) := rfl
  rw [he]
  refine stp ?_; try with_reducible exact True.intro
  refine useT (l23Text k) ?_; try with_reducible exact True.intro
  cases hc : parseG (exText k) with
  | none =>
    rw [hc] at hp
    simp only [resG0, obG0] at hp
    refine useT (hp) ?_; try with_reducible exact True.intro
    exact (fitK [] [1])
  | some g =>
    rw [hc] at hp
    simp only [resG0, obG0] at hp
    refine useT (hp) ?_; try with_reducible exact True.intro
    exact (fitK [] [1])
theorem ExampleGluingI (k : Int) : ConT Try.prog 7 [.i k] (resG (exG k)) (obG (exG k)) := by
  refine conT_of hmix hTab Try.func7 rfl rfl (by kernel_rfl) (by show 1 ≤ Try.f7.ntmps; decide) ?_
  have hp := ParseGluingI (exText k) (exText_small k)
  have he : exG k = parseG (exText k) := rfl
  rw [he]
  refine stp ?_; try with_reducible exact True.intro
  refine useT ((within k 1 6).toT) ?_; try with_reducible exact True.intro
  by_cases h : 1 ≤ k ∧ k ≤ 6
  · have hx : exText k = rdT .str exT (k - 1) := if_pos h
    rw [hx] at hp ⊢
    simp only [h, and_self, decide_true]
    cases hc : parseG (rdT .str exT (k - 1)) with
    | none =>
      rw [hc] at hp
      simp only [resG, obG] at hp
      refine stp ?_; try with_reducible exact True.intro
      refine useT (hp) ?_; try with_reducible exact True.intro
      exact (fitK [] [])
    | some g =>
      rw [hc] at hp
      simp only [resG, obG] at hp
      refine stp ?_; try with_reducible exact True.intro
      refine useT (hp) ?_; try with_reducible exact True.intro
      exact (fitK [] [1])
  · have hx : exText k = ⟨#[]⟩ := if_neg h
    rw [hx, parseG_empty]
    simp only [h, decide_false]
    refine stp ?_; try with_reducible exact True.intro
    exact (fitK [] [])
end Go.Proofs.YtldjlonofclelaaTv
end
section
open Go Go.Proofs.YtldjlonofclelaaVe Go.Proofs.YtldjlonofclelaaTv Go.Proofs
namespace Go.Proofs.YtldjlonofclelaaTv
set_option maxRecDepth 8000
set_option maxHeartbeats 2000000
theorem exG_facts {k : Int} {g : List (List Int)} (h : exG k = some g) : g.length ≤ 4 ∧ (∀ r ∈ g, r.length ≤ 24) := by
  unfold exG parseG at h
  split at h
  · rename_i l hl
    split at h
    · rename_i hg
      injection h with h
      subst h
      simp only [isGl, Bool.and_eq_true, decide_eq_true_eq] at hg
      exact ⟨by omega, (words_len _ _ hl).2⟩
    · cases h
  · cases h
end Go.Proofs.YtldjlonofclelaaTv
end
section
open Go Go.Proofs.YtldjlonofclelaaVe Go.Proofs.YtldjlonofclelaaTv Go.Proofs
namespace Go.Proofs.YtldjlonofclelaaTv
set_option maxRecDepth 8000
set_option maxHeartbeats 2000000
/-- The numbers of a row, looked at one by one; s: what was seen. -/
def goRow (n : Int) : List Int → List Int → Option (List Int)
  | [], s => some s
  | x :: r, s => if x = 0 ∨ ¬ (-n ≤ x ∧ x ≤ n) ∨ x ∈ s then none else goRow n r (s ++ [x])
def goTri (n : Int) : List (List Int) → List Int → Bool
  | [], _ => true
  | w :: l, s => if w.length ≠ 3 then false else match goRow n w s with
    | none => false
    | some s' => goTri n l s'
def isTri (ll : List (List Int)) : Bool := if ll.length % 2 ≠ 0 then false else if 3 ≤ (3 * (ll.length : Int)).tdiv 2 ∧ (3 * (ll.length : Int)).tdiv 2 ≤ 9 then goTri ((3 * (ll.length : Int)).tdiv 2) ll [] else false
def seenM (s : List Int) : List (Int × Bool) := s.map fun x => (x, true)
theorem seenM_get (s : List Int) (x : Int) : getL .bool (seenM s) x = decide (x ∈ s) := by
  unfold getL seenM
  induction s with
  | nil => rfl
  | cons y s ih =>
    rw [List.map_cons, List.find?_cons]
    by_cases h : y = x
    · subst h; simp
    · have hb : ((y, true).1 == x) = false := by simpa using h
      have h2 : ¬ x = y := fun e => h e.symm
      rw [hb]
      simp only
      rw [ih]
      simp [h2]
theorem seenM_set {s : List Int} {x : Int} (h : x ∉ s) : setL .bool x true (seenM s) = seenM (s ++ [x]) := by
  induction s with
  | nil => rfl
  | cons y s ih =>
    have h1 : y ≠ x := fun e => h (by simp [e])
    have h2 : x ∉ s := fun e => h (by simp [e])
    show setL .bool x true ((y, true) :: seenM s) = (y, true) :: seenM (s ++ [x])
    simp only [setL, if_neg h1]
    rw [ih h2]
theorem IsTriangulationI (ll : List (List Int)) (hlen : (ll.length : Int) ≤ 1000) (hr : ∀ w ∈ ll, (w.length : Int) ≤ 1000) : ConS Try.prog 105 [.ill ll] (.b (isTri ll)) := by
  refine conS_of hmix hTab Try.func105 rfl rfl (by kernel_rfl) (by show 1 ≤ Try.f105.ntmps; decide) rfl ?_
  have ht : (3 * (ll.length : Int)).tdiv 2 = 3 * (ll.length : Int) / 2 := Int.tdiv_eq_ediv_of_nonneg (by omega)
  have hm : ((ll.length : Int)).tmod 2 = (ll.length : Int) % 2 := Int.tmod_eq_emod_of_nonneg (by omega)
  unfold isTri
  refine stp ?_; try with_reducible exact True.intro
  generalize (3 * (ll.length : Int)).tdiv 2 = n at *
  generalize (ll.length : Int).tmod 2 = q at *
  have w := within n 3 9
  by_cases h2 : ll.length % 2 ≠ 0
  · rw [if_pos h2]
    refine brT (decide_eq_true (by omega)) ?_
    refine stp ?_; try with_reducible exact True.intro
  · rw [if_neg h2]
    have hq : q = 0 := by omega
    subst hq
    refine stp ?_; try with_reducible exact True.intro
    refine useT (w.toT) ?_; try with_reducible exact True.intro
    by_cases h3 : 3 ≤ n ∧ n ≤ 9
    · rw [if_pos h3, decide_eq_true h3]
      refine stp ?_; try with_reducible exact True.intro
      refine ⟨⟨.bool, ?_⟩⟩
      refine stp ?_; try with_reducible exact True.intro
      refine ⟨Nat × List Int, fun a => a.1 ≤ ll.length ∧ goTri n (ll.drop a.1) a.2 = goTri n ll [], fun a => ll.length - a.1, fun a => [(3, .i n), (4, .mp 0), (23, .ill ll), (24, .i ll.length), (25, .i a.1)], fun a => [.mpt .bool (seenM a.2)], ⟨(0, []), (fitK [] [0]), by simp⟩, fun ⟨i, s⟩ ⟨hi, hs⟩ => ?_⟩
      dsimp only at hi hs ⊢
      refine stp ?_; try with_reducible exact True.intro
      refine Br.mk (fun h1 => ?_) (fun h1 => ?_) <;> simp [-Int.ofNat_toNat] at h1
      · have hm := hr _ (rdR_memA h1)
        rw [drop_consB h1] at hs
        have ql : List.length (rdT (.list (.int .i64)) ll (i : Int)) = (rdR ll i).length := rfl
        refine stp ?_; try with_reducible exact True.intro
        by_cases hl : (rdR ll i).length = 3
        · rw [goTri, if_neg (by simpa using hl)] at hs
          refine brF (decide_eq_false (by omega)) ?_
          refine stp ?_; try with_reducible exact True.intro
          refine ⟨Nat × List Int, fun a => a.1 ≤ (rdR ll i).length ∧ goRow n ((rdR ll i).drop a.1) a.2 = goRow n (rdR ll i) s, fun a => (rdR ll i).length - a.1, fun a => [(3, .i n), (4, .mp 0), (23, .ill ll), (24, .i ll.length), (25, .i i), (32, .il (rdR ll i)), (33, .i (rdR ll i).length), (34, .i a.1)], fun a => [.mpt .bool (seenM a.2)], ⟨(0, s), (fitK [] [0]), by simp⟩, fun ⟨j, t⟩ ⟨hj, hg⟩ => ?_⟩
          dsimp only at hj hg ⊢
          refine stp ?_; try with_reducible exact True.intro
          refine Br.mk (fun h2 => ?_) (fun h2 => ?_) <;> simp [-Int.ofNat_toNat] at h2
          · rw [drop_consA h2, goRow] at hg
            have wx := within (rd (rdR ll i) j) (-n) n
            have hm1 := seenM_get t (rd (rdR ll i) j)
            have hm2 := @seenM_set t (rd (rdR ll i) j)
            by_cases h0 : rd (rdR ll i) j = 0
            · rw [if_pos (.inl h0)] at hg
              rw [← hg] at hs
              rw [← hs]
              refine stp ?_; try with_reducible exact True.intro
              refine brT (decide_eq_true h0) ?_
              refine stp ?_; try with_reducible exact True.intro
            by_cases hb : -n ≤ rd (rdR ll i) j ∧ rd (rdR ll i) j ≤ n
            · rw [decide_eq_true hb] at wx
              by_cases ht : rd (rdR ll i) j ∈ t
              · rw [if_pos (.inr (.inr ht))] at hg
                rw [← hg] at hs
                rw [← hs]
                rw [decide_eq_true ht] at hm1
                refine stp ?_; try with_reducible exact True.intro
                refine brF (decide_eq_false h0) ?_
                refine stp ?_; try with_reducible exact True.intro
                refine useT (wx.toT) ?_; try with_reducible exact True.intro
                refine brT hm1 ?_
                refine stp ?_; try with_reducible exact True.intro
              · rw [if_neg (by rintro (h | h | h) <;> contradiction)] at hg
                rw [decide_eq_false ht] at hm1
                refine stp ?_; try with_reducible exact True.intro
                refine brF (decide_eq_false h0) ?_
                refine stp ?_; try with_reducible exact True.intro
                refine useT (wx.toT) ?_; try with_reducible exact True.intro
                refine brF hm1 ?_
                refine stp ?_; try with_reducible exact True.intro
                refine ⟨(j + 1, t ++ [rd (rdR ll i) j]), ⟨.frz [], [0], ⟨rfl, rfl, rfl, rfl, rfl, rfl, rfl, rfl, trivial⟩, ⟨?_, trivial⟩, by decide, rfl, rfl, rfl⟩, ⟨by omega, hg⟩, by first | ((try dsimp only); omega) | (simp; omega)⟩
                refine congrArg (fun x => some (Obj.mpt .bool x)) ?_
                exact hm2 ht
            · rw [if_pos (.inr (.inl hb))] at hg
              rw [← hg] at hs
              rw [← hs]
              rw [decide_eq_false hb] at wx
              refine stp ?_; try with_reducible exact True.intro
              refine brF (decide_eq_false h0) ?_
              refine stp ?_; try with_reducible exact True.intro
              refine useT (wx.toT) ?_; try with_reducible exact True.intro
          · have e7 : j = (rdR ll i).length := by omega
            subst e7
            rw [List.drop_length, goRow] at hg
            rw [← hg] at hs
            refine stp ?_; try with_reducible exact True.intro
            exact ⟨(i + 1, t), (fitK [] [0]), ⟨by omega, hs⟩, by first | ((try dsimp only); omega) | (simp; omega)⟩
        · rw [goTri, if_pos hl] at hs
          rw [← hs]
          refine brT (decide_eq_true (by omega)) ?_
          refine stp ?_; try with_reducible exact True.intro
      · have e7 : i = ll.length := by omega
        subst e7
        rw [List.drop_length, goTri] at hs
        rw [← hs]
        refine stp ?_; try with_reducible exact True.intro
    · rw [if_neg h3, decide_eq_false h3]
      refine stp ?_; try with_reducible exact True.intro
end Go.Proofs.YtldjlonofclelaaTv
end
section
open Go Go.Proofs.YtldjlonofclelaaVe Go.Proofs.YtldjlonofclelaaTv Go.Proofs
namespace Go.Proofs.YtldjlonofclelaaTv
set_option maxRecDepth 8000
set_option maxHeartbeats 2000000
def seenB (n : Int) (s : List Int) : List Bool := (List.range (2 * n + 1).toNat).map fun i : Nat => decide ((i : Int) - n ∈ s)
theorem seenB_len (n : Int) (s : List Int) : (seenB n s).length = (2 * n + 1).toNat := by simp [seenB]
theorem seenB_nil (n : Int) : seenB n [] = List.replicate (2 * n + 1).toNat false := by
  unfold seenB
  rw [show (fun i : Nat => decide ((i : Int) - n ∈ ([] : List Int))) = fun _ => false by funext i; simp]
  simp [List.map_const']
theorem seenB_get {n : Int} {s : List Int} {x : Int} (h : -n ≤ x ∧ x ≤ n) : (seenB n s).getD (n + x).toNat false = decide (x ∈ s) := by
  unfold seenB
  rw [List.getD_eq_getElem?_getD, List.getElem?_map, List.getElem?_range (by omega)]
  simp only [Option.map_some, Option.getD_some]
  rw [show (((n + x).toNat : Nat) : Int) - n = x by omega]
theorem seenB_set {n : Int} {s : List Int} {x : Int} (h : -n ≤ x ∧ x ≤ n) : (seenB n s).set (n + x).toNat true = seenB n (s ++ [x]) := by
  refine List.ext_getElem? fun i => ?_
  rw [List.getElem?_set]
  unfold seenB
  by_cases hi : i < (2 * n + 1).toNat
  · rw [List.getElem?_map, List.getElem?_map, List.getElem?_range hi]
    simp only [Option.map_some, List.length_map, List.length_range, List.mem_append, List.mem_singleton]
    by_cases e : (n + x).toNat = i
    · rw [if_pos e, if_pos (by omega)]
      have : (i : Int) - n = x := by omega
      simp [this]
    · rw [if_neg e]
      have : ¬ (i : Int) - n = x := by omega
      simp [this]
  · by_cases e : (n + x).toNat = i
    · rw [if_pos e, if_neg (by simp; omega), List.getElem?_eq_none (by simp; omega)]
    · rw [if_neg e, List.getElem?_eq_none (by simp; omega), List.getElem?_eq_none (by simp; omega)]
theorem IsTriangulationS (ll : List (List Int)) (hlen : (ll.length : Int) ≤ 1000) (hr : ∀ w ∈ ll, (w.length : Int) ≤ 1000) : ConS Try.prog 21 [.ill ll] (.b (isTri ll)) := by
  refine conS_of hmix hTab Try.func21 rfl rfl (by kernel_rfl) (by show 1 ≤ Try.f21.ntmps; decide) rfl ?_
  have ht : (3 * (ll.length : Int)).tdiv 2 = 3 * (ll.length : Int) / 2 := Int.tdiv_eq_ediv_of_nonneg (by omega)
  have hm : ((ll.length : Int)).tmod 2 = (ll.length : Int) % 2 := Int.tmod_eq_emod_of_nonneg (by omega)
  unfold isTri
  refine stp ?_; try with_reducible exact True.intro
  generalize (3 * (ll.length : Int)).tdiv 2 = n at *
  generalize (ll.length : Int).tmod 2 = q at *
  have w := l1In n 3 9
  by_cases h2 : ll.length % 2 ≠ 0
  · rw [if_pos h2]
    refine brT (decide_eq_true (by omega)) ?_
    refine stp ?_; try with_reducible exact True.intro
  · rw [if_neg h2]
    have hq : q = 0 := by omega
    subst hq
    refine stp ?_; try with_reducible exact True.intro
    refine useT (w.toT) ?_; try with_reducible exact True.intro
    by_cases h3 : 3 ≤ n ∧ n ≤ 9
    · rw [if_pos h3, decide_eq_true h3]
      have hnl := seenB_nil n
      refine stp ?_; try with_reducible exact True.intro
      refine ⟨Nat × List Int, fun a => a.1 ≤ ll.length ∧ goTri n (ll.drop a.1) a.2 = goTri n ll [], fun a => ll.length - a.1, fun a => [(0, .ill ll), (3, .i n), (4, .own 0 0 (2 * n + 1).toNat), (5, .i a.1)], fun a => [.arr .bool (seenB n a.2) true], ⟨(0, []), by dsimp only; rw [hnl]; exact (fitK [] [0]), by simp⟩, fun ⟨i, s⟩ ⟨hi, hs⟩ => ?_⟩
      dsimp only at hi hs ⊢
      refine stp ?_; try with_reducible exact True.intro
      refine Br.mk (fun h1 => ?_) (fun h1 => ?_) <;> simp [-Int.ofNat_toNat] at h1
      · have hm := hr _ (rdR_memA h1)
        rw [drop_consB h1] at hs
        have ql : List.length (rdT (.list (.int .i64)) ll (i : Int)) = (rdR ll i).length := rfl
        refine stp ?_; try with_reducible exact True.intro
        by_cases hl : (rdR ll i).length = 3
        · rw [goTri, if_neg (by simpa using hl)] at hs
          refine brF (decide_eq_false (by omega)) ?_
          refine stp ?_; try with_reducible exact True.intro
          refine ⟨Nat × List Int, fun a => a.1 ≤ 3 ∧ goRow n ((rdR ll i).drop a.1) a.2 = goRow n (rdR ll i) s, fun a => 3 - a.1, fun a => [(0, .ill ll), (3, .i n), (4, .own 0 0 (2 * n + 1).toNat), (5, .i i), (6, .i a.1)], fun a => [.arr .bool (seenB n a.2) true], ⟨(0, s), (fitK [] [0]), by simp⟩, fun ⟨j, t⟩ ⟨hj, hg⟩ => ?_⟩
          dsimp only at hj hg ⊢
          have hbl := seenB_len n t
          refine stp ?_; try with_reducible exact True.intro
          refine Br.mk (fun h4 => ?_) (fun h4 => ?_) <;> simp [-Int.ofNat_toNat] at h4
          · rw [drop_consA (by omega), goRow] at hg
            have wx := l1In (rd (rdR ll i) j) (-n) n
            have hm1 := @seenB_get n t (rd (rdR ll i) j)
            have hm2 := @seenB_set n t (rd (rdR ll i) j)
            have qm : List.length (rdT (.list (.int .i64)) ll ((Int.toNat (i : Int) : Nat) : Int)) = (rdR ll i).length := rfl
            have qx : @Eq Int (rdT (.int .i64) (rdT (.list (.int .i64)) ll (i : Int)) (j : Int)) (rd (rdR ll i) j) := rfl
            by_cases h0 : rd (rdR ll i) j = 0
            · rw [if_pos (.inl h0)] at hg
              rw [← hg] at hs
              rw [← hs]
              refine stp ?_; try with_reducible exact True.intro
              refine brT (decide_eq_true h0) ?_
              refine stp ?_; try with_reducible exact True.intro
            by_cases hb : -n ≤ rd (rdR ll i) j ∧ rd (rdR ll i) j ≤ n
            · rw [decide_eq_true hb] at wx
              by_cases ht : rd (rdR ll i) j ∈ t
              · rw [if_pos (.inr (.inr ht))] at hg
                rw [← hg] at hs
                rw [← hs]
                replace hm1 := hm1 hb
                rw [decide_eq_true ht] at hm1
                refine stp ?_; try with_reducible exact True.intro
                refine brF (decide_eq_false h0) ?_
                refine stp ?_; try with_reducible exact True.intro
                refine useT (wx.toT) ?_; try with_reducible exact True.intro
                refine brT hm1 ?_
                refine stp ?_; try with_reducible exact True.intro
              · rw [if_neg (by rintro (h | h | h) <;> contradiction)] at hg
                replace hm1 := hm1 hb
                rw [decide_eq_false ht] at hm1
                refine stp ?_; try with_reducible exact True.intro
                refine brF (decide_eq_false h0) ?_
                refine stp ?_; try with_reducible exact True.intro
                refine useT (wx.toT) ?_; try with_reducible exact True.intro
                refine brF hm1 ?_
                refine stp ?_; try with_reducible exact True.intro
                refine ⟨(j + 1, t ++ [rd (rdR ll i) j]), ⟨.frz [], [0], ⟨rfl, rfl, rfl, rfl, rfl, trivial⟩, ⟨?_, trivial⟩, by decide, rfl, rfl, rfl⟩, ⟨by omega, hg⟩, by first | ((try dsimp only); omega) | (simp; omega)⟩
                refine congrArg (fun x => some (Obj.arr .bool x true)) ?_
                exact hm2 hb
            · rw [if_pos (.inr (.inl hb))] at hg
              rw [← hg] at hs
              rw [← hs]
              rw [decide_eq_false hb] at wx
              refine stp ?_; try with_reducible exact True.intro
              refine brF (decide_eq_false h0) ?_
              refine stp ?_; try with_reducible exact True.intro
              refine useT (wx.toT) ?_; try with_reducible exact True.intro
          · have e7 : j = 3 := by omega
            subst e7
            rw [← hl, List.drop_length, goRow] at hg
            rw [← hg] at hs
            refine stp ?_; try with_reducible exact True.intro
            exact ⟨(i + 1, t), (fitK [] [0]), ⟨by omega, hs⟩, by first | ((try dsimp only); omega) | (simp; omega)⟩
        · rw [goTri, if_pos hl] at hs
          rw [← hs]
          refine brT (decide_eq_true (by omega)) ?_
          refine stp ?_; try with_reducible exact True.intro
      · have e7 : i = ll.length := by omega
        subst e7
        rw [List.drop_length, goTri] at hs
        rw [← hs]
        refine stp ?_; try with_reducible exact True.intro
    · rw [if_neg h3, decide_eq_false h3]
      refine stp ?_; try with_reducible exact True.intro
end Go.Proofs.YtldjlonofclelaaTv
end
section
open Go Go.Proofs.YtldjlonofclelaaVe Go.Proofs.YtldjlonofclelaaTv Go.Proofs
namespace Go.Proofs.YtldjlonofclelaaTv
set_option maxRecDepth 8000
set_option maxHeartbeats 2000000
def letT (c : Int) : Option Int := if 97 ≤ c ∧ c ≤ 105 then some (c - 96) else if 65 ≤ c ∧ c ≤ 73 then some (64 - c) else none
def letsT (s : ByteArray) : Nat → Option (List Int)
  | 0 => some []
  | i + 1 => match letsT s i, letT (byteAt s i) with
    | some l, some x => some (l ++ [x])
    | _, _ => none
theorem letsT_len (s : ByteArray) : ∀ (i : Nat) (l : List Int), letsT s i = some l → l.length = i
  | 0, l, h => by
    injection h with h
    rw [← h]; rfl
  | i + 1, l, h => by
    unfold letsT at h
    split at h
    · rename_i l0 x h1 h2
      injection h with h
      have := letsT_len s i l0 h1
      rw [← h]; simp [this]
    · cases h
theorem letsT_none (s : ByteArray) {i : Nat} (h : letsT s i = none) : ∀ j, i ≤ j → letsT s j = none
  | 0, hj => by
    obtain rfl : i = 0 := by omega
    exact h
  | j + 1, hj => by
    by_cases e : i = j + 1
    · rw [← e]; exact h
    · rw [letsT, letsT_none s h j (by omega)]
def wordsT (ps : List ByteArray) : Nat → Option (List (List Int))
  | 0 => some []
  | k + 1 => match wordsT ps k, letsT (rdT .str ps k) (rdT .str ps k).size with
    | some l, some w => some (l ++ [w])
    | _, _ => none
theorem wordsT_none {ps : List ByteArray} {i : Nat} (h : wordsT ps i = none) : ∀ j, i ≤ j → wordsT ps j = none
  | 0, hj => by
    obtain rfl : i = 0 := by omega
    exact h
  | j + 1, hj => by
    by_cases e : i = j + 1
    · rw [← e]; exact h
    · rw [wordsT, wordsT_none h j (by omega)]
theorem wordsT_len {ps : List ByteArray} (hp : ∀ q ∈ ps, q.size ≤ 36) : ∀ (k : Nat) (l : List (List Int)), k ≤ ps.length → wordsT ps k = some l → l.length = k ∧ ∀ w ∈ l, w.length ≤ 36
  | 0, l, _, h => by
    injection h with h
    rw [← h]; simp
  | k + 1, l, hk, h => by
    unfold wordsT at h
    split at h
    · rename_i l0 w h1 h2
      injection h with h
      obtain ⟨h3, h4⟩ := wordsT_len hp k l0 (by omega) h1
      have h5 := letsT_len _ _ _ h2
      have h6 := hp (rdT .str ps k) (List.mem_of_getElem? (rdT_get .str ps (k : Int) (by simp; omega)))
      rw [← h]
      refine ⟨by simp [h3], fun w' hw => ?_⟩
      rcases List.mem_append.1 hw with hw | hw
      · exact h4 w' hw
      · rw [List.mem_singleton] at hw; rw [hw]; omega
    · cases h
def parseT (s : ByteArray) : Option (List (List Int)) := match wordsT (split s 32) (split s 32).length with
  | some g => if isTri g = true then some g else none
  | none => none
theorem ParseTriI (s : ByteArray) (hs : s.size ≤ 36) : ConT Try.prog 52 [.s s] (resG (parseT s)) (obG (parseT s)) := by
  refine conT_of hmix hTab Try.func52 rfl rfl (by kernel_rfl) (by show 1 ≤ Try.f52.ntmps; decide) ?_
  have hsp := SplitByteI s 32 (by omega)
  have hlen := split_len s 32
  have hsz : ∀ q ∈ split s 32, q.size ≤ 36 := fun q hq => Nat.le_trans (split_size (s := s) (b := 32) q hq) hs
  have hp : parseT s = match wordsT (split s 32) (split s 32).length with
    | some g => if isTri g = true then some g else none
    | none => none := rfl
  generalize split s 32 = ps at *
  refine stp ?_; try with_reducible exact True.intro
  refine brF (decide_eq_false (by omega)) ?_
  refine stp ?_; try with_reducible exact True.intro
  refine Or.inl ?_; refine stp ?_; try with_reducible exact True.intro
  refine useT (hsp) ?_; try with_reducible exact True.intro
  refine ⟨Nat × List (List Int), fun a => a.1 ≤ ps.length ∧ wordsT ps a.1 = some a.2, fun a => ps.length - a.1, fun a => [(4, .own 0 0 a.2.length), (15, .own 1 0 ps.length), (16, .i ps.length), (17, .i a.1)], fun a => [.arr (.list (.int .i64)) a.2 true, .arr .str ps true], ⟨(0, []), (fitK [] [0, 1]), Nat.zero_le _, rfl⟩, fun ⟨k, l⟩ ⟨hk, hl⟩ => ?_⟩
  dsimp only at hk hl ⊢
  obtain ⟨hll, hlr⟩ := wordsT_len hsz k l hk hl
  refine stp ?_; try with_reducible exact True.intro
  refine Br.mk (fun h1 => ?_) (fun h1 => ?_) <;> simp [-Int.ofNat_toNat] at h1
  · have hq := hsz (rdT .str ps k) (List.mem_of_getElem? (rdT_get .str ps (k : Int) (by simpa using h1)))
    have hsu : wordsT ps (k + 1) = match letsT (rdT .str ps k) (rdT .str ps k).size with
      | some w => some (l ++ [w])
      | none => none := by
      rw [wordsT, hl]
      cases letsT (rdT .str ps k) (rdT .str ps k).size <;> rfl
    refine stp ?_; try with_reducible exact True.intro
    refine ⟨Nat × List Int, fun a => a.1 ≤ (rdT .str ps k).size ∧ letsT (rdT .str ps k) a.1 = some a.2, fun a => (rdT .str ps k).size - a.1, fun a => [(4, .own 0 0 l.length), (6, .s (rdT .str ps k)), (7, .own 2 0 a.2.length), (15, .own 1 0 ps.length), (16, .i ps.length), (17, .i k), (23, .i (rdT .str ps k).size), (24, .i a.1)], fun a => [.arr (.list (.int .i64)) l true, .arr .str ps true, .arr (.int .i64) a.2 true], ⟨(0, []), (fitK [] [0, 1, 2]), Nat.zero_le _, rfl⟩, fun ⟨i, w⟩ ⟨hi, hw⟩ => ?_⟩
    dsimp only at hi hw ⊢
    generalize rdT .str ps (k : Int) = q at *
    have hll2 := letsT_len q i w hw
    refine stp ?_; try with_reducible exact True.intro
    refine Br.mk (fun h2 => ?_) (fun h2 => ?_) <;> simp [-Int.ofNat_toNat] at h2
    · have hb := byteAt_rng q i
      have hsu2 : letsT q (i + 1) = match letT (byteAt q i) with
        | some x => some (w ++ [x])
        | none => none := by
        rw [letsT, hw]
        cases letT (byteAt q i) <;> rfl
      have hbad : letT (byteAt q i) = none → parseT s = none := fun e => by
        have e1 : letsT q q.size = none := letsT_none q (by rw [hsu2, e]) q.size h2
        rw [e1] at hsu
        rw [hp, wordsT_none hsu ps.length h1]
      have hgood : ∀ x, letT (byteAt q i) = some x → letsT q (i + 1) = some (w ++ [x]) := fun x e => by rw [hsu2, e]
      unfold letT at hbad hgood
      by_cases hA : 97 ≤ byteAt q i ∧ byteAt q i ≤ 105
      · replace hgood := hgood _ (by rw [if_pos hA])
        have w2 : IntKind.wrap .i64 (IntKind.wrap .u8 (byteAt q i - 97)) = byteAt q i - 97 := by
          rw [IntWalk.u8_in _ (by omega), IntWalk.i64_in _ (by omega)]
        refine stp ?_; try with_reducible exact True.intro
        refine brT (decide_eq_true (by omega)) ?_
        refine stp ?_; try with_reducible exact True.intro
        refine brT (decide_eq_true (by omega)) ?_
        refine stp ?_; try with_reducible exact True.intro
        refine ⟨(i + 1, w ++ [byteAt q i - 96]), ⟨.frz [], [0, 1, 4], ⟨rfl, rfl, ?_, rfl, rfl, rfl, rfl, rfl, trivial⟩, ⟨rfl, rfl, ?_, trivial⟩, by decide, rfl, rfl, rfl⟩, ⟨h2, hgood⟩, by first | ((try dsimp only); omega) | (simp; omega)⟩
        · show V.own 4 0 _ = V.own 4 0 _
          congr 1
          simp
        · refine congrArg (fun x => some (Obj.arr (.int .i64) x true)) ?_
          simp [w2, List.take_of_length_le]
          exact (by omega : byteAt q i - 97 + 1 = byteAt q i - 96)
      · rw [if_neg hA] at hbad hgood
        by_cases hB : 65 ≤ byteAt q i ∧ byteAt q i ≤ 73
        · replace hgood := hgood _ (by rw [if_pos hB])
          have w2 : IntKind.wrap .i64 (IntKind.wrap .u8 (byteAt q i - 65)) = byteAt q i - 65 := by
            rw [IntWalk.u8_in _ (by omega), IntWalk.i64_in _ (by omega)]
          refine stp ?_; try with_reducible exact True.intro
          refine brF (decide_eq_false (by omega)) ?_
          refine stp ?_; try with_reducible exact True.intro
          refine brT (decide_eq_true (by omega)) ?_
          refine stp ?_; try with_reducible exact True.intro
          refine brT (decide_eq_true (by omega)) ?_
          refine stp ?_; try with_reducible exact True.intro
          refine ⟨(i + 1, w ++ [64 - byteAt q i]), ⟨.frz [], [0, 1, 4], ⟨rfl, rfl, ?_, rfl, rfl, rfl, rfl, rfl, trivial⟩, ⟨rfl, rfl, ?_, trivial⟩, by decide, rfl, rfl, rfl⟩, ⟨h2, hgood⟩, by first | ((try dsimp only); omega) | (simp; omega)⟩
          · show V.own 4 0 _ = V.own 4 0 _
            congr 1
            simp
          · refine congrArg (fun x => some (Obj.arr (.int .i64) x true)) ?_
            simp [w2, List.take_of_length_le]
            exact (by omega : -(byteAt q i - 65) - 1 = 64 - byteAt q i)
        · rw [if_neg hB] at hbad
          rw [hbad rfl]
          refine stp ?_; try with_reducible exact True.intro
          by_cases h97 : 97 ≤ byteAt q i
          · refine brT (decide_eq_true (by omega)) ?_
            refine stp ?_; try with_reducible exact True.intro
            refine brF (decide_eq_false (by omega)) ?_
            refine stp ?_; try with_reducible exact True.intro
            refine brT (decide_eq_true (by omega)) ?_
            refine stp ?_; try with_reducible exact True.intro
            refine brF (decide_eq_false (by omega)) ?_
            refine stp ?_; try with_reducible exact True.intro
            exact (fitK [] [])
          · refine brF (decide_eq_false (by omega)) ?_
            refine stp ?_; try with_reducible exact True.intro
            by_cases h65 : 65 ≤ byteAt q i
            · refine brT (decide_eq_true (by omega)) ?_
              refine stp ?_; try with_reducible exact True.intro
              refine brF (decide_eq_false (by omega)) ?_
              refine stp ?_; try with_reducible exact True.intro
              exact (fitK [] [])
            · refine brF (decide_eq_false (by omega)) ?_
              refine stp ?_; try with_reducible exact True.intro
              exact (fitK [] [])
    · have e7 : i = q.size := by omega
      rw [e7] at hw
      rw [hw] at hsu
      refine stp ?_; try with_reducible exact True.intro
      refine Or.inl ⟨_, rfl, rfl, by first | rfl | (simp; done) | (simp; omega), ?_⟩; refine stp ?_; try with_reducible exact True.intro
      refine Or.inl ⟨_, _, rfl, rfl, by decide, rfl, by first | rfl | omega | (simp; done) | (simp; omega), rfl, by first | rfl | omega | (simp; done) | (simp; omega), by first | omega | (simp; omega), ?_⟩; refine stp ?_; try with_reducible exact True.intro
      refine ⟨(k + 1, l ++ [w]), ⟨.frz [], [4, 1], ⟨?_, rfl, rfl, rfl, trivial⟩, ⟨rfl, rfl, trivial⟩, by decide, rfl, rfl, rfl⟩, ⟨h1, hsu⟩, by first | ((try dsimp only); omega) | (simp; omega)⟩
      show V.own 4 0 _ = V.own 4 0 _
      congr 1
      simp
  · obtain rfl : k = ps.length := by omega
    rw [hl] at hp
    simp only at hp
    have hg := IsTriangulationI l (by omega) (fun w hw => by have := hlr w hw; omega)
    refine stp ?_; try with_reducible exact True.intro
    refine useT (hg.toT) ?_; try with_reducible exact True.intro
    cases hgl : isTri l with
    | true =>
      rw [hgl, if_pos rfl] at hp
      rw [hp]
      refine brF rfl ?_
      refine stp ?_; try with_reducible exact True.intro
      exact (fitK [] [0])
    | false =>
      rw [hgl, if_neg (by simp)] at hp
      rw [hp]
      refine brT rfl ?_
      refine stp ?_; try with_reducible exact True.intro
      exact (fitK [] [])
end Go.Proofs.YtldjlonofclelaaTv
end
section
open Go Go.Proofs.YtldjlonofclelaaVe Go.Proofs.YtldjlonofclelaaTv Go.Proofs
namespace Go.Proofs.YtldjlonofclelaaTv
set_option maxRecDepth 8000
set_option maxHeartbeats 2000000
theorem ParseTriS (s : ByteArray) (hs : s.size ≤ 36) : ConT Try.prog 53 [.s s] (resG0 (parseT s)) (obG0 (parseT s)) := by
  refine conT_of hmix hTab Try.func53 rfl rfl (by kernel_rfl) (by show 1 ≤ Try.f53.ntmps; decide) ?_
  have hsp := SplitByteS s 32 (by omega)
  have hlen := split_len s 32
  have hsz : ∀ q ∈ split s 32, q.size ≤ 36 := fun q hq => Nat.le_trans (split_size (s := s) (b := 32) q hq) hs
  have hp : parseT s = match wordsT (split s 32) (split s 32).length with
    | some g => if isTri g = true then some g else none
    | none => none := rfl
  generalize split s 32 = ps at *
  refine stp ?_; try with_reducible exact True.intro
  refine Or.inl ?_; refine stp ?_; try with_reducible exact True.intro
  refine useT (hsp) ?_; try with_reducible exact True.intro
  refine ⟨Nat × List (List Int), fun a => a.1 ≤ ps.length ∧ wordsT ps a.1 = some a.2, fun a => ps.length - a.1, fun a => [(4, .own 0 0 a.2.length), (5, .own 1 0 ps.length), (6, .i a.1)], fun a => [.arr (.list (.int .i64)) a.2 true, .arr .str ps true], ⟨(0, []), (fitK [] [0, 1]), Nat.zero_le _, rfl⟩, fun ⟨k, l⟩ ⟨hk, hl⟩ => ?_⟩
  dsimp only at hk hl ⊢
  obtain ⟨hll, hlr⟩ := wordsT_len hsz k l hk hl
  refine stp ?_; try with_reducible exact True.intro
  refine Br.mk (fun h1 => ?_) (fun h1 => ?_) <;> simp [-Int.ofNat_toNat] at h1
  · have hq := hsz (rdT .str ps k) (List.mem_of_getElem? (rdT_get .str ps (k : Int) (by simpa using h1)))
    have hsu : wordsT ps (k + 1) = match letsT (rdT .str ps k) (rdT .str ps k).size with
      | some w => some (l ++ [w])
      | none => none := by
      rw [wordsT, hl]
      cases letsT (rdT .str ps k) (rdT .str ps k).size <;> rfl
    refine stp ?_; try with_reducible exact True.intro
    refine ⟨Nat × List Int, fun a => a.1 ≤ (rdT .str ps k).size ∧ letsT (rdT .str ps k) a.1 = some a.2, fun a => (rdT .str ps k).size - a.1, fun a => [(4, .own 0 0 l.length), (5, .own 1 0 ps.length), (6, .i k), (7, .own 2 0 a.2.length), (8, .i a.1)], fun a => [.arr (.list (.int .i64)) l true, .arr .str ps true, .arr (.int .i64) a.2 true], ⟨(0, []), (fitK [] [0, 1, 2]), Nat.zero_le _, rfl⟩, fun ⟨i, w⟩ ⟨hi, hw⟩ => ?_⟩
    dsimp only at hi hw ⊢
    have hll2 := letsT_len (rdT .str ps k) i w hw
    have qs : ByteArray.size (rdT .str ps ((Int.toNat (k : Int) : Nat) : Int)) = (rdT .str ps k).size := rfl
    have qb : byteAt (rdT .str ps ((Int.toNat (k : Int) : Nat) : Int)) (i : Int) = byteAt (rdT .str ps k) i := rfl
    refine stp ?_; try with_reducible exact True.intro
    refine Br.mk (fun h2 => ?_) (fun h2 => ?_) <;> simp only [decide_eq_true_eq, decide_eq_false_iff_not, ne_eq, Decidable.not_not, Bool.not_eq_eq_eq_not, Bool.not_true, Bool.not_false] at h2
    · replace h2 : i + 1 ≤ (rdT .str ps k).size := by omega
      have hb := byteAt_rng (rdT .str ps k) i
      have hsu2 : letsT (rdT .str ps k) (i + 1) = match letT (byteAt (rdT .str ps k) i) with
        | some x => some (w ++ [x])
        | none => none := by
        rw [letsT, hw]
        cases letT (byteAt (rdT .str ps k) i) <;> rfl
      have hbad : letT (byteAt (rdT .str ps k) i) = none → parseT s = none := fun e => by
        have e1 : letsT (rdT .str ps k) (rdT .str ps k).size = none := letsT_none (rdT .str ps k) (by rw [hsu2, e]) (rdT .str ps k).size h2
        rw [e1] at hsu
        rw [hp, wordsT_none hsu ps.length h1]
      have hgood : ∀ x, letT (byteAt (rdT .str ps k) i) = some x → letsT (rdT .str ps k) (i + 1) = some (w ++ [x]) := fun x e => by rw [hsu2, e]
      unfold letT at hbad hgood
      by_cases hA : 97 ≤ byteAt (rdT .str ps k) i ∧ byteAt (rdT .str ps k) i ≤ 105
      · replace hgood := hgood _ (by rw [if_pos hA])
        have w2 : IntKind.wrap .i64 (byteAt (rdT .str ps ((Int.toNat (k : Int) : Nat) : Int)) (i : Int)) = byteAt (rdT .str ps k) i := by rw [IntWalk.i64_in _ (by omega)]; rfl
        refine stp ?_; try with_reducible exact True.intro
        refine brT (decide_eq_true (by omega)) ?_
        refine stp ?_; try with_reducible exact True.intro
        refine brT (decide_eq_true (by omega)) ?_
        refine stp ?_; try with_reducible exact True.intro
        refine ⟨(i + 1, w ++ [byteAt (rdT .str ps k) i - 96]), ⟨.frz [], [0, 1, 4], ⟨rfl, rfl, rfl, ?_, rfl, trivial⟩, ⟨rfl, rfl, ?_, trivial⟩, by decide, rfl, rfl, rfl⟩, ⟨h2, hgood⟩, by first | ((try dsimp only); omega) | (simp; omega)⟩
        · show V.own 4 0 _ = V.own 4 0 _
          congr 1
          simp
        · refine congrArg (fun x => some (Obj.arr (.int .i64) x true)) ?_
          have w3 : byteAt (rdT .str ps k) i - 97 + 1 = byteAt (rdT .str ps k) i - 96 := by omega
          rw [w2, w3]
          simp [List.take_of_length_le]
      · rw [if_neg hA] at hbad hgood
        by_cases hB : 65 ≤ byteAt (rdT .str ps k) i ∧ byteAt (rdT .str ps k) i ≤ 73
        · replace hgood := hgood _ (by rw [if_pos hB])
          have w2 : IntKind.wrap .i64 (byteAt (rdT .str ps ((Int.toNat (k : Int) : Nat) : Int)) (i : Int)) = byteAt (rdT .str ps k) i := by rw [IntWalk.i64_in _ (by omega)]; rfl
          refine stp ?_; try with_reducible exact True.intro
          refine brF (decide_eq_false (by omega)) ?_
          refine stp ?_; try with_reducible exact True.intro
          refine brT (decide_eq_true (by omega)) ?_
          refine stp ?_; try with_reducible exact True.intro
          refine brT (decide_eq_true (by omega)) ?_
          refine stp ?_; try with_reducible exact True.intro
          refine ⟨(i + 1, w ++ [64 - byteAt (rdT .str ps k) i]), ⟨.frz [], [0, 1, 4], ⟨rfl, rfl, rfl, ?_, rfl, trivial⟩, ⟨rfl, rfl, ?_, trivial⟩, by decide, rfl, rfl, rfl⟩, ⟨h2, hgood⟩, by first | ((try dsimp only); omega) | (simp; omega)⟩
          · show V.own 4 0 _ = V.own 4 0 _
            congr 1
            simp
          · refine congrArg (fun x => some (Obj.arr (.int .i64) x true)) ?_
            have w3 : -(byteAt (rdT .str ps k) i - 65 + 1) = 64 - byteAt (rdT .str ps k) i := by omega
            rw [w2, w3]
            simp [List.take_of_length_le]
        · rw [if_neg hB] at hbad
          rw [hbad rfl]
          refine stp ?_; try with_reducible exact True.intro
          by_cases h97 : 97 ≤ byteAt (rdT .str ps k) i
          · refine brT (decide_eq_true (by omega)) ?_
            refine stp ?_; try with_reducible exact True.intro
            refine brF (decide_eq_false (by omega)) ?_
            refine stp ?_; try with_reducible exact True.intro
            refine brT (decide_eq_true (by omega)) ?_
            refine stp ?_; try with_reducible exact True.intro
            refine brF (decide_eq_false (by omega)) ?_
            refine stp ?_; try with_reducible exact True.intro
            (refine Or.inl ?_; refine stp ?_; try with_reducible exact True.intro); exact (fitK [] [3])
          · refine brF (decide_eq_false (by omega)) ?_
            refine stp ?_; try with_reducible exact True.intro
            by_cases h65 : 65 ≤ byteAt (rdT .str ps k) i
            · refine brT (decide_eq_true (by omega)) ?_
              refine stp ?_; try with_reducible exact True.intro
              refine brF (decide_eq_false (by omega)) ?_
              refine stp ?_; try with_reducible exact True.intro
              (refine Or.inl ?_; refine stp ?_; try with_reducible exact True.intro); exact (fitK [] [3])
            · refine brF (decide_eq_false (by omega)) ?_
              refine stp ?_; try with_reducible exact True.intro
              (refine Or.inl ?_; refine stp ?_; try with_reducible exact True.intro); exact (fitK [] [3])
    · have e7 : i = (rdT .str ps k).size := by omega
      rw [e7] at hw
      rw [hw] at hsu
      refine stp ?_; try with_reducible exact True.intro
      refine Or.inl ⟨_, rfl, rfl, by first | rfl | (simp; done) | (simp; omega), ?_⟩; refine stp ?_; try with_reducible exact True.intro
      refine Or.inl ⟨_, _, rfl, rfl, by decide, rfl, by first | rfl | omega | (simp; done) | (simp; omega), rfl, by first | rfl | omega | (simp; done) | (simp; omega), by first | omega | (simp; omega), ?_⟩; refine stp ?_; try with_reducible exact True.intro
      refine ⟨(k + 1, l ++ [w]), ⟨.frz [], [4, 1], ⟨?_, rfl, rfl, trivial⟩, ⟨rfl, rfl, trivial⟩, by decide, rfl, rfl, rfl⟩, ⟨h1, hsu⟩, by first | ((try dsimp only); omega) | (simp; omega)⟩
      show V.own 4 0 _ = V.own 4 0 _
      congr 1
      simp
  · obtain rfl : k = ps.length := by omega
    rw [hl] at hp
    simp only at hp
    have hg := IsTriangulationS l (by omega) (fun w hw => by have := hlr w hw; omega)
    refine stp ?_; try with_reducible exact True.intro
    refine useT (hg.toT) ?_; try with_reducible exact True.intro
    cases hgl : isTri l with
    | true =>
      rw [hgl, if_pos rfl] at hp
      rw [hp]
      refine brF rfl ?_
      refine stp ?_; try with_reducible exact True.intro
      exact (fitK [] [0])
    | false =>
      rw [hgl, if_neg (by simp)] at hp
      rw [hp]
      refine brT rfl ?_
      refine stp ?_; try with_reducible exact True.intro
      (refine Or.inl ?_; refine stp ?_; try with_reducible exact True.intro); exact (fitK [] [2])
end Go.Proofs.YtldjlonofclelaaTv
end
