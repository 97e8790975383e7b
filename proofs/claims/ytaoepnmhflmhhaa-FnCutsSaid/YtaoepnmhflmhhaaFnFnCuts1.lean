/- What functions of the program give: each contract holds for all arguments that its own sentence names. -/
import Derived.Test.YtaoepnmhflmhhaaTv4
import Derived.Test.YtaoepnmhflmhhaaProg
import Derived.IntWalk
set_option linter.unusedVariables false
set_option linter.unusedSimpArgs false
section
open Go Go.Proofs.YtaoepnmhflmhhaaVe Go.Proofs.YtaoepnmhflmhhaaTv Go.Proofs
namespace Go.Proofs.YtaoepnmhflmhhaaTv
set_option maxRecDepth 8000
set_option maxHeartbeats 2000000
def tab : List (Nat × TE) := [(1, ⟨.fnil, .other, 8⟩), (3, ⟨.int .i64, .int .i64, 8⟩), (4, ⟨.bool, .bool, 1⟩), (5, ⟨.int .u8, .int .u8, 1⟩), (9, ⟨.str, .str, 16⟩), (22, ⟨.list (.list (.int .i64)), .sl 28, 24⟩), (24, ⟨.fnil, .other, 8⟩), (25, ⟨.fnil, .other, 8⟩), (26, ⟨.fnil, .other, 8⟩), (27, ⟨.fnil, .other, 8⟩), (28, ⟨.list (.int .i64), .sl 3, 24⟩), (30, ⟨.fnil, .other, 8⟩), (31, ⟨.fnil, .other, 8⟩), (32, ⟨.fnil, .other, 8⟩), (33, ⟨.fnil, .other, 8⟩), (34, ⟨.fnil, .other, 8⟩), (36, ⟨.pair (.list (.list (.int .i64))) (.pair (.list (.list (.int .i64))) (.pair (.list (.int .i64)) (.pair (.str) (.pair (.list (.int .i64)) (.unit))))), .st [(0, 1), (1, 1), (2, 1), (3, 1), (4, 1)], 112⟩), (37, ⟨.fnil, .other, 8⟩), (38, ⟨.fnil, .other, 8⟩), (39, ⟨.fnil, .other, 8⟩), (40, ⟨.fnil, .other, 8⟩), (41, ⟨.list (.int .u8), .sl 5, 24⟩), (42, ⟨.fnil, .other, 8⟩), (44, ⟨.pair (.int .i64) (.pair (.int .i64) (.pair (.int .i64) (.unit))), .st [(0, 1), (1, 1), (2, 1)], 24⟩), (45, ⟨.fnil, .other, 8⟩), (47, ⟨.fnil, .other, 8⟩), (48, ⟨.list (.list (.pair (.int .i64) (.pair (.int .i64) (.pair (.int .i64) (.unit))))), .sl 54, 24⟩), (49, ⟨.fnil, .other, 8⟩), (51, ⟨.fnil, .other, 8⟩), (52, ⟨.fnil, .other, 8⟩), (53, ⟨.fnil, .other, 8⟩), (54, ⟨.list (.pair (.int .i64) (.pair (.int .i64) (.pair (.int .i64) (.unit)))), .sl 44, 24⟩), (55, ⟨.fnil, .other, 8⟩), (56, ⟨.fnil, .other, 8⟩), (57, ⟨.fnil, .other, 8⟩), (58, ⟨.fnil, .other, 8⟩), (59, ⟨.fnil, .other, 8⟩), (60, ⟨.fnil, .other, 8⟩), (61, ⟨.list (.str), .sl 9, 24⟩), (62, ⟨.fnil, .other, 8⟩), (63, ⟨.fnil, .other, 8⟩), (65, ⟨.pair (.int .i64) (.pair (.int .i64) (.pair (.int .i64) (.pair (.int .i64) (.unit)))), .st [(0, 1), (1, 1), (2, 1), (3, 1)], 32⟩), (66, ⟨.fnil, .other, 8⟩), (67, ⟨.fnil, .other, 8⟩), (68, ⟨.fnil, .other, 8⟩), (71, ⟨.fnil, .other, 8⟩), (72, ⟨.fnil, .other, 8⟩), (74, ⟨.fnil, .other, 8⟩), (75, ⟨.fnil, .other, 8⟩), (76, ⟨.fnil, .other, 8⟩), (77, ⟨.fnil, .other, 8⟩), (78, ⟨.fnil, .other, 8⟩), (79, ⟨.fnil, .other, 8⟩), (80, ⟨.fnil, .other, 8⟩), (81, ⟨.fnil, .other, 8⟩), (82, ⟨.pair (.list (.int .u8)) (.pair (.int .i64) (.pair (.int .i64) (.unit))), .st [(0, 1), (1, 1), (2, 1)], 40⟩), (83, ⟨.pair (.list (.int .u8)) (.pair (.int .i64) (.pair (.int .i64) (.unit))), .st [(0, 1), (1, 1), (2, 1)], 40⟩), (84, ⟨.fnil, .other, 8⟩), (85, ⟨.fnil, .other, 8⟩), (86, ⟨.list (.bool), .sl 4, 24⟩), (88, ⟨.fnil, .other, 8⟩), (89, ⟨.int .u64, .int .u64, 8⟩), (90, ⟨.fnil, .other, 8⟩), (96, ⟨.fnil, .other, 8⟩), (100, ⟨.fnil, .other, 8⟩), (106, ⟨.fnil, .other, 8⟩)]
theorem hmix : Try.prog.follows .mixedOrders = true := by kernel_rfl
theorem hTab : TabOk Try.prog tab := fun t e h => by
  refine tabAll_ok (l := tab) ?_ t e h
  refine ⟨⟨by kernel_rfl, trivial⟩, ⟨by kernel_rfl, rfl⟩, ⟨by kernel_rfl, trivial⟩, ⟨by kernel_rfl, rfl⟩, ⟨by kernel_rfl, trivial⟩, ⟨by kernel_rfl, _, rfl, rfl, by decide, by decide, by decide⟩, ⟨by kernel_rfl, trivial⟩, ⟨by kernel_rfl, trivial⟩, ⟨by kernel_rfl, trivial⟩, ⟨by kernel_rfl, trivial⟩, ⟨by kernel_rfl, _, rfl, rfl, by decide, by decide, by decide⟩, ⟨by kernel_rfl, trivial⟩, ⟨by kernel_rfl, trivial⟩, ⟨by kernel_rfl, trivial⟩, ⟨by kernel_rfl, trivial⟩, ⟨by kernel_rfl, trivial⟩, ⟨by kernel_rfl, trivial⟩, ⟨by kernel_rfl, trivial⟩, ⟨by kernel_rfl, trivial⟩, ⟨by kernel_rfl, trivial⟩, ⟨by kernel_rfl, trivial⟩, ⟨by kernel_rfl, _, rfl, rfl, by decide, by decide, by decide⟩, ⟨by kernel_rfl, trivial⟩, ⟨by kernel_rfl, trivial⟩, ⟨by kernel_rfl, trivial⟩, ⟨by kernel_rfl, trivial⟩, ⟨by kernel_rfl, _, rfl, rfl, by decide, by decide, by decide⟩, ⟨by kernel_rfl, trivial⟩, ⟨by kernel_rfl, trivial⟩, ⟨by kernel_rfl, trivial⟩, ⟨by kernel_rfl, trivial⟩, ⟨by kernel_rfl, _, rfl, rfl, by decide, by decide, by decide⟩, ⟨by kernel_rfl, trivial⟩, ⟨by kernel_rfl, trivial⟩, ⟨by kernel_rfl, trivial⟩, ⟨by kernel_rfl, trivial⟩, ⟨by kernel_rfl, trivial⟩, ⟨by kernel_rfl, trivial⟩, ⟨by kernel_rfl, _, rfl, rfl, by decide, by decide, by decide⟩, ⟨by kernel_rfl, trivial⟩, ⟨by kernel_rfl, trivial⟩, ⟨by kernel_rfl, trivial⟩, ⟨by kernel_rfl, trivial⟩, ⟨by kernel_rfl, trivial⟩, ⟨by kernel_rfl, trivial⟩, ⟨by kernel_rfl, trivial⟩, ⟨by kernel_rfl, trivial⟩, ⟨by kernel_rfl, trivial⟩, ⟨by kernel_rfl, trivial⟩, ⟨by kernel_rfl, trivial⟩, ⟨by kernel_rfl, trivial⟩, ⟨by kernel_rfl, trivial⟩, ⟨by kernel_rfl, trivial⟩, ⟨by kernel_rfl, trivial⟩, ⟨by kernel_rfl, trivial⟩, ⟨by kernel_rfl, trivial⟩, ⟨by kernel_rfl, trivial⟩, ⟨by kernel_rfl, trivial⟩, ⟨by kernel_rfl, trivial⟩, ⟨by kernel_rfl, _, rfl, rfl, by decide, by decide, by decide⟩, ⟨by kernel_rfl, trivial⟩, ⟨by kernel_rfl, rfl⟩, ⟨by kernel_rfl, trivial⟩, ⟨by kernel_rfl, trivial⟩, ⟨by kernel_rfl, trivial⟩, ⟨by kernel_rfl, trivial⟩, trivial⟩
theorem l1In (a lo hi : Int) : ConS Try.prog 74 [.i a, .i lo, .i hi] (.b (decide (lo ≤ a ∧ a ≤ hi))) := by
  refine conS_of hmix hTab Try.func74 rfl rfl (by kernel_rfl) (by show 3 ≤ Try.f74.ntmps; decide) rfl ?_
  refine stp ?_; try with_reducible exact True.intro
  refine Br.mk (fun h => ?_) (fun h => ?_)
  all_goals refine stp ?_; try with_reducible exact True.intro
  all_goals (simp at h; simp [h])
  omega
theorem within (a lo hi : Int) : ConS Try.prog 49 [.i a, .i lo, .i hi] (.b (decide (lo ≤ a ∧ a ≤ hi))) := by
  refine conS_of hmix hTab Try.func49 rfl rfl (by kernel_rfl) (by show 3 ≤ Try.f49.ntmps; decide) rfl ?_
  refine stp ?_; try with_reducible exact True.intro
  refine Br.mk (fun h => ?_) (fun h => ?_)
  all_goals refine stp ?_; try with_reducible exact True.intro
  all_goals (simp at h; simp [h])
  omega
theorem toIntS (l : List Int) (hl : (l.length : Int) ≤ 1048576) : ConT Try.prog 16 [.il l] (.own 0 0 l.length) [.arr (.int .i64) l true] := by
  refine conT_of hmix hTab Try.func16 rfl rfl (by kernel_rfl) (by show 1 ≤ Try.f16.ntmps; decide) ?_
  refine stp ?_; try with_reducible exact True.intro
  refine ⟨Nat, fun i => i ≤ l.length, fun i => l.length - i, fun i => [(0, .il l), (3, .own 0 0 l.length), (4, .i i)], fun i => [.arr (.int .i64) (l.take i ++ List.replicate (l.length - i) 0) true], ⟨0, ⟨.frz [], [0], ⟨rfl, rfl, rfl, trivial⟩, ⟨rfl, trivial⟩, by decide, rfl, rfl, rfl⟩, Nat.zero_le _⟩, fun i hi => ?_⟩
  refine stp ?_; try with_reducible exact True.intro
  refine Br.mk (fun h => ?_) (fun h => ?_) <;> simp at h
  · refine stp ?_; try with_reducible exact True.intro
    refine ⟨i + 1, ⟨.frz [], [0], ⟨rfl, rfl, rfl, trivial⟩, ⟨?_, trivial⟩, by decide, rfl, rfl, rfl⟩, h, by dsimp only; omega⟩
    refine congrArg (fun x => some (Obj.arr (.int .i64) x true)) ?_
    have := fill_step id l (0 : Int) rfl (rd_get (l := l) (i := (i : Int)) (by simpa using h))
    simpa using this
  · refine stp ?_; try with_reducible exact True.intro
    obtain rfl : i = l.length := Nat.le_antisymm hi h
    exact ⟨.frz [], [0], ⟨rfl, trivial⟩, ⟨by simp [Obj.ren, frzI], trivial⟩, by decide, rfl, rfl, rfl⟩
end Go.Proofs.YtaoepnmhflmhhaaTv
end
section
open Go Go.Proofs.YtaoepnmhflmhhaaVe Go.Proofs.YtaoepnmhflmhhaaTv Go.Proofs
namespace Go.Proofs.YtaoepnmhflmhhaaTv
set_option maxRecDepth 8000
set_option maxHeartbeats 2000000
/-- A law's own checks: rows that are equal. -/
theorem ConS.toT {P : Program} {f : Nat} {args : List V} {rs : V} (h : ConS P f args rs) : ConT P f args rs [] := by
  obtain ⟨h1, h2, h3⟩ := h
  refine ⟨h2, fun m s avs hno hs hS hv => (h3 m s avs hno hs hS hv).mono fun av H' ⟨e1, e2⟩ => ⟨m, e2.symm, hS, Kp.refl m [], Fr.refl m s, ?_⟩⟩
  rw [e1]; exact scal_vt m [] rs h1
theorem eqIntS (l m : List Int) (hl : (l.length : Int) ≤ 274877906944) : ConS Try.prog 18 [.il l, .il m] (.b (decide (l = m))) := by
  refine conS_of hmix hTab Try.func18 rfl rfl (by kernel_rfl) (by show 2 ≤ Try.f18.ntmps; decide) rfl ?_
  refine stp ?_; try with_reducible exact True.intro
  refine Br.mk (fun h => ?_) (fun h => ?_) <;> simp at h
  · refine stp ?_; try with_reducible exact True.intro
    have : l ≠ m := fun e => h (by rw [e])
    simp [this]
  · refine stp ?_; try with_reducible exact True.intro
    refine ⟨Nat, fun i => i ≤ l.length ∧ ∀ k, k < i → rd l k = rd m k, fun i => l.length - i, fun i => [(0, .il l), (1, .il m), (5, .i i)], fun i => [], ⟨0, ⟨.frz [], [], ⟨rfl, rfl, rfl, trivial⟩, trivial, by decide, rfl, rfl, rfl⟩, by simp⟩, fun i ⟨hi, hk⟩ => ?_⟩
    refine stp ?_; try with_reducible exact True.intro
    refine Br.mk (fun h1 => ?_) (fun h1 => ?_) <;> simp at h1
    · refine stp ?_; try with_reducible exact True.intro
      refine Br.mk (fun h2 => ?_) (fun h2 => ?_) <;> simp at h2
      · refine stp ?_; try with_reducible exact True.intro
        have : l ≠ m := fun e => h2 (by rw [e])
        simp [this]
      · refine stp ?_; try with_reducible exact True.intro
        refine ⟨i + 1, ⟨.frz [], [], ⟨rfl, rfl, rfl, trivial⟩, trivial, by decide, rfl, rfl, rfl⟩, ⟨h1, fun k hk1 => ?_⟩, by dsimp only; omega⟩
        by_cases e : k = i
        · rw [e]; exact h2
        · exact hk k (by omega)
    · refine stp ?_; try with_reducible exact True.intro
      have : l = m := by
        refine List.ext_getElem (by omega) fun k h2 h3 => ?_
        have := hk k (by omega)
        simpa [rd, h2, h3] using this
      simp [this]
end Go.Proofs.YtaoepnmhflmhhaaTv
end
section
open Go Go.Proofs.YtaoepnmhflmhhaaVe Go.Proofs.YtaoepnmhflmhhaaTv Go.Proofs
namespace Go.Proofs.YtaoepnmhflmhhaaTv
set_option maxRecDepth 8000
set_option maxHeartbeats 2000000
/-- n, n + 1, .. -/
def marks (n : Int) (k : Nat) : List Int := (List.range k).map fun i => n + (i : Nat)
@[simp] theorem marks_length (n : Int) (k : Nat) : (marks n k).length = k := by simp [marks]
theorem marks_get (n : Int) {k i : Nat} (h : i < k) : (marks n k)[i]? = some (n + i) := by simp [marks, h]
theorem markIntS (l : List Int) (n : Int) (hn : -1000000000000 ≤ n ∧ n ≤ 1000000000000) (hl : (l.length : Int) ≤ 274877906944) : ConI Try.prog 19 [.own 0 0 l.length, .i n] [.arr (.int .i64) l true] (.i (n + l.length)) [.arr (.int .i64) (marks n l.length) true] := by
  refine conI_of hmix hTab Try.func19 rfl rfl (by kernel_rfl) (by show 2 ≤ Try.f19.ntmps; decide) ?_
  refine stp ?_; try with_reducible exact True.intro
  refine ⟨Nat, fun i => i ≤ l.length, fun i => l.length - i, fun i => [(0, .own 0 0 l.length), (1, .i (n + i)), (5, .i i)], fun i => [.arr (.int .i64) ((marks n l.length).take i ++ l.drop i) true], ⟨0, ⟨.frz [], [0], ⟨rfl, by simp [V.ren, EnvV.upd, EnvV.ev, env0T], rfl, trivial⟩, ⟨rfl, trivial⟩, by decide, rfl, rfl, rfl⟩, by simp⟩, fun i hi => ?_⟩
  dsimp only at hi
  have hml := marks_length n l.length
  have hlen : ((marks n l.length).take i ++ l.drop i).length = l.length := by simp; omega
  refine stp ?_; try with_reducible exact True.intro
  refine Br.mk (fun h => ?_) (fun h => ?_) <;> simp [-Int.ofNat_toNat] at h
  · refine stp ?_; try with_reducible exact True.intro
    refine ⟨i + 1, ⟨.frz [], [0], ⟨rfl, ?_, rfl, trivial⟩, ⟨?_, trivial⟩, by decide, rfl, rfl, rfl⟩, h, by dsimp only; omega⟩
    · show V.i (n + i + 1) = V.i (n + (i + 1 : Nat))
      rw [show n + (i : Int) + 1 = n + ((i + 1 : Nat) : Int) by omega]
    · refine congrArg (fun x => some (Obj.arr (.int .i64) x true)) ?_
      have h1 : (i : Int).toNat = i := by omega
      rw [h1, List.set_append_right _ _ (by simp; omega), List.take_add_one, marks_get n h]
      have h2 : i - ((marks n l.length).take i).length = 0 := by simp; omega
      rw [h2, List.drop_eq_getElem_cons h, List.set_cons_zero]
      simp
  · refine stp ?_; try with_reducible exact True.intro
    obtain rfl : i = l.length := Nat.le_antisymm hi h
    exact ⟨.frz [], [0], ⟨rfl, trivial⟩, ⟨by rw [List.take_of_length_le (by omega), List.drop_of_length_le (Nat.le_refl _), List.append_nil]; rfl, trivial⟩, by decide, rfl, rfl, rfl⟩
theorem markIntN (n : Int) : ConS Try.prog 19 [.nil .unit, .i n] (.i n) := by
  refine conS_of hmix hTab Try.func19 rfl rfl (by kernel_rfl) (by show 2 ≤ Try.f19.ntmps; decide) rfl ?_
  refine stp ?_; try with_reducible exact True.intro
  refine ⟨Unit, fun _ => True, fun _ => 0, fun _ => [(0, .nil .unit), (1, .i n), (5, .i 0)], fun _ => [], ⟨(), ⟨.frz [], [], ⟨rfl, rfl, rfl, trivial⟩, trivial, by decide, rfl, rfl, rfl⟩, trivial⟩, fun _ _ => ?_⟩
  refine stp ?_; try with_reducible exact True.intro
/-- n, n + 1, .. stand there still. -/
theorem heldIntS (n : Int) (k : Nat) (hn : 0 ≤ n ∧ n ≤ 1000000000000) (hl : (k : Int) ≤ 274877906944) : ConS Try.prog 20 [.il (marks n k), .i n] (.i (n + k)) := by
  refine conS_of hmix hTab Try.func20 rfl rfl (by kernel_rfl) (by show 2 ≤ Try.f20.ntmps; decide) rfl ?_
  have hml := marks_length n k
  refine stp ?_; try with_reducible exact True.intro
  refine ⟨Nat, fun i => i ≤ k, fun i => k - i, fun i => [(0, .il (marks n k)), (1, .i (n + i)), (5, .i i)], fun i => [], ⟨0, ⟨.frz [], [], ⟨rfl, by simp [V.ren, EnvV.upd, EnvV.ev, env0T], rfl, trivial⟩, trivial, by decide, rfl, rfl, rfl⟩, by simp⟩, fun i hi => ?_⟩
  dsimp only at hi
  refine stp ?_; try with_reducible exact True.intro
  refine Br.mk (fun h => ?_) (fun h => ?_) <;> simp [-Int.ofNat_toNat] at h
  · have h1 : rdT (.int .i64) (marks n k) i = n + i := by simp [rd, List.getD_eq_getElem?_getD, marks_get n (show i < k by omega)]
    refine stp ?_; try with_reducible exact True.intro
    rw [h1]
    refine Br.mk (fun h2 => ?_) (fun h2 => ?_) <;> simp [-Int.ofNat_toNat] at h2
    refine stp ?_; try with_reducible exact True.intro
    refine ⟨i + 1, ⟨.frz [], [], ⟨rfl, ?_, rfl, trivial⟩, trivial, by decide, rfl, rfl, rfl⟩, by omega, by dsimp only; omega⟩
    show V.i (n + i + 1) = V.i (n + (i + 1 : Nat))
    rw [show n + (i : Int) + 1 = n + ((i + 1 : Nat) : Int) by omega]
  · refine stp ?_; try with_reducible exact True.intro
    obtain rfl : i = k := by omega
    rfl
theorem heldIntN (n : Int) : ConS Try.prog 20 [.nil .unit, .i n] (.i n) := by
  refine conS_of hmix hTab Try.func20 rfl rfl (by kernel_rfl) (by show 2 ≤ Try.f20.ntmps; decide) rfl ?_
  refine stp ?_; try with_reducible exact True.intro
  refine ⟨Unit, fun _ => True, fun _ => 0, fun _ => [(0, .nil .unit), (1, .i n), (5, .i 0)], fun _ => [], ⟨(), ⟨.frz [], [], ⟨rfl, rfl, rfl, trivial⟩, trivial, by decide, rfl, rfl, rfl⟩, trivial⟩, fun _ _ => ?_⟩
  refine stp ?_; try with_reducible exact True.intro
end Go.Proofs.YtaoepnmhflmhhaaTv
end
section
open Go Go.Proofs.YtaoepnmhflmhhaaVe Go.Proofs.YtaoepnmhflmhhaaTv Go.Proofs
namespace Go.Proofs.YtaoepnmhflmhhaaTv
set_option maxRecDepth 8000
set_option maxHeartbeats 2000000
def in64i (x : Int) : Prop := -9223372036854775808 ≤ x ∧ x ≤ 9223372036854775807
def cur (code : List Int) (i h : Int) : Obj := .vars [.val (.list (.int .u8)) code, .i i, .i h]
def stepH (h : Int) : Int := IntKind.wrap .i64 (IntKind.wrap .i64 (h * 6364136223846793005) + 1442695040888963407)
def and255 (x : Int) : Int := IntKind.wrap .i64 (BitVec.ofInt (IntKind.bits .i64) x &&& BitVec.ofInt (IntKind.bits .i64) 255).toNat
def mixB (h : Int) : Int := and255 (IntKind.wrap .i64 (BitVec.ofInt (IntKind.bits .i64) (Int.fdiv h (2 ^ (min (Int.toNat 33) (IntKind.bits .i64)))) ^^^ BitVec.ofInt (IntKind.bits .i64) (Int.fdiv h (2 ^ (min (Int.toNat 45) (IntKind.bits .i64))))).toNat)
theorem and255_rng (x : Int) : 0 ≤ and255 x ∧ and255 x ≤ 255 := by
  unfold and255
  have h : (BitVec.ofInt (IntKind.bits .i64) x &&& BitVec.ofInt (IntKind.bits .i64) 255).toNat ≤ 255 := by
    rw [BitVec.toNat_and]
    exact Nat.le_trans Nat.and_le_right (by decide)
  rw [IntWalk.i64_in _ (by omega)]
  omega
def byteV (code : List Int) (i h : Int) : Int := if i < (code.length : Int) then and255 (IntKind.wrap .i64 (mixB h + IntKind.wrap .i64 (rd code i))) else mixB h
def byteI (code : List Int) (i : Int) : Int := if i < (code.length : Int) then i + 1 else i
theorem byteV_rng (code : List Int) (i h : Int) : 0 ≤ byteV code i h ∧ byteV code i h ≤ 255 := by
  unfold byteV mixB
  split <;> exact and255_rng _
theorem byteI_rng {code : List Int} {i : Int} (hi : 0 ≤ i ∧ i ≤ code.length) : 0 ≤ byteI code i ∧ byteI code i ≤ code.length := by
  unfold byteI
  split <;> omega
theorem l1Byte (code : List Int) (i h : Int) (hi : 0 ≤ i ∧ i ≤ code.length) (hc : (code.length : Int) ≤ 1048576) : ConI Try.prog 88 [.pcell 0 0] [cur code i h] (.i (byteV code i (stepH h))) [cur code (byteI code i) (stepH h)] := by
  refine conI_of hmix hTab Try.func88 rfl rfl (by kernel_rfl) (by show 1 ≤ Try.f88.ntmps; decide) ?_
  refine stp ?_; try with_reducible exact True.intro
  refine OrW.wrap ?_
  refine stp ?_; try with_reducible exact True.intro
  refine OrW.wrap ?_
  refine stp ?_; try with_reducible exact True.intro
  by_cases c : i < (code.length : Int)
  · have e1 : byteV code i (stepH h) = and255 (IntKind.wrap .i64 (mixB (stepH h) + IntKind.wrap .i64 (rd code i))) := if_pos c
    have e2 : byteI code i = i + 1 := if_pos c
    rw [e1, e2]
    refine brT (decide_eq_true c) ?_
    refine stp ?_; try with_reducible exact True.intro
    refine OrW.wrap ?_
    refine stp ?_; try with_reducible exact True.intro
    exact ⟨.frz [], [0], ⟨rfl, trivial⟩, ⟨rfl, trivial⟩, by decide, rfl, rfl, rfl⟩
  · have e1 : byteV code i (stepH h) = mixB (stepH h) := if_neg c
    have e2 : byteI code i = i := if_neg c
    rw [e1, e2]
    refine brF (decide_eq_false c) ?_
    refine stp ?_; try with_reducible exact True.intro
    exact ⟨.frz [], [0], ⟨rfl, trivial⟩, ⟨rfl, trivial⟩, by decide, rfl, rfl, rfl⟩
end Go.Proofs.YtaoepnmhflmhhaaTv
end
section
open Go Go.Proofs.YtaoepnmhflmhhaaVe Go.Proofs.YtaoepnmhflmhhaaTv Go.Proofs
namespace Go.Proofs.YtaoepnmhflmhhaaTv
set_option maxRecDepth 100000
abbrev Cu := Int × Int
def okS (code : List Int) (s : Cu) : Prop := 0 ≤ s.1 ∧ s.1 ≤ code.length
def nx (code : List Int) (s : Cu) : Cu := (byteI code s.1, stepH s.2)
def bl (code : List Int) (n : Int) (s : Cu) : Int := Int.tmod (byteV code s.1 (stepH s.2)) n
theorem nx_ok {code : List Int} {s : Cu} (h : okS code s) : okS code (nx code s) := byteI_rng h
theorem bl_rng (code : List Int) {n : Int} (hn : 1 ≤ n) (s : Cu) : 0 ≤ bl code n s ∧ bl code n s < n := by
  have h := byteV_rng code s.1 (stepH s.2)
  unfold bl
  rw [Int.tmod_eq_emod_of_nonneg h.1]
  exact ⟨Int.emod_nonneg _ (by omega), Int.emod_lt_of_pos _ (by omega)⟩
def and30 (x : Int) : Int := IntKind.wrap .i64 (BitVec.ofInt (IntKind.bits .i64) x &&& BitVec.ofInt (IntKind.bits .i64) 1073741823).toNat
theorem and30_rng (x : Int) : 0 ≤ and30 x ∧ and30 x ≤ 1073741823 := by
  unfold and30
  have h : (BitVec.ofInt (IntKind.bits .i64) x &&& BitVec.ofInt (IntKind.bits .i64) 1073741823).toNat ≤ 1073741823 := by
    rw [BitVec.toNat_and]
    exact Nat.le_trans Nat.and_le_right (by decide)
  rw [IntWalk.i64_in _ (by omega)]
  omega
def hN (code : List Int) : Nat → Int
  | 0 => 26583 + code.length
  | i + 1 => and30 (IntKind.wrap .i64 (IntKind.wrap .i64 (hN code i * 131 + IntKind.wrap .i64 (rd code i)) + 7))
theorem hN_rng {code : List Int} (hc : (code.length : Int) ≤ 1048576) : ∀ i, 0 ≤ hN code i ∧ hN code i ≤ 1073741823
  | 0 => by simp only [hN]; omega
  | i + 1 => and30_rng _
def s0 (code : List Int) : Cu := (0, hN code (min code.length 4000))
theorem s0_ok (code : List Int) : okS code (s0 code) := ⟨Int.le_refl _, by show (0 : Int) ≤ _; omega⟩
def curS (code : List Int) (s : Cu) : Obj := .vars [.val (.list (.int .u8)) code, .i s.1, .i s.2]
theorem l1New (code : List Int) (hc : (code.length : Int) ≤ 1048576) : ConT Try.prog 64 [.val (.list (.int .u8)) code] (.pcell 0 0) [curS code (s0 code)] := by
  refine conT_of hmix hTab Try.func64 rfl rfl (by kernel_rfl) (by show 1 ≤ Try.f64.ntmps; decide) ?_
  refine stp ?_; try with_reducible exact True.intro
  refine ⟨Nat, fun i => i ≤ min code.length 4000, fun i => code.length - i, fun i => [(0, .val (.list (.int .u8)) code), (3, .i (hN code i)), (4, .i i)], fun i => [], ⟨0, (fitK [] []), Nat.zero_le _⟩, fun i hi => ?_⟩
  dsimp only at hi ⊢
  have hr := hN_rng hc i
  have hsu : hN code (i + 1) = and30 (IntKind.wrap .i64 (IntKind.wrap .i64 (hN code i * 131 + IntKind.wrap .i64 (rd code i)) + 7)) := rfl
  have hfin : i = min code.length 4000 → s0 code = (0, hN code i) := fun e => by rw [e]; rfl
  generalize hN code i = h at *
  refine stp ?_; try with_reducible exact True.intro
  by_cases c1 : i < code.length
  · refine brT (decide_eq_true (by omega)) ?_
    refine stp ?_; try with_reducible exact True.intro

    by_cases c2 : i < 4000
    · refine brT (decide_eq_true (by omega)) ?_
      refine stp ?_; try with_reducible exact True.intro
      refine OrW.wrap ?_
      refine stp ?_; try with_reducible exact True.intro
      refine OrW.wrap ?_
      refine stp ?_; try with_reducible exact True.intro
      refine ⟨i + 1, ⟨.frz [], [], ⟨rfl, ?_, rfl, trivial⟩, trivial, by decide, rfl, rfl, rfl⟩, by first | ((try dsimp only); omega) | (simp; omega), by first | ((try dsimp only); omega) | (simp; omega)⟩
      rw [hsu]; rfl
    · refine brF (decide_eq_false (by omega)) ?_
      refine stp ?_; try with_reducible exact True.intro
      rw [hfin (by omega)]
      exact ⟨.frz [], [0], ⟨rfl, trivial⟩, ⟨rfl, trivial⟩, by decide, rfl, rfl, rfl⟩
  · refine brF (decide_eq_false (by omega)) ?_
    refine stp ?_; try with_reducible exact True.intro
    rw [hfin (by omega)]
    exact ⟨.frz [], [0], ⟨rfl, trivial⟩, ⟨rfl, trivial⟩, by decide, rfl, rfl, rfl⟩
theorem l1Below (code : List Int) (s : Cu) (n : Int) (hi : okS code s) (hc : (code.length : Int) ≤ 1048576) (hn : 1 ≤ n ∧ n ≤ 256) : ConI Try.prog 72 [.pcell 0 0, .i n] [curS code s] (.i (bl code n s)) [curS code (nx code s)] := by
  refine conI_of hmix hTab Try.func72 rfl rfl (by kernel_rfl) (by show 2 ≤ Try.f72.ntmps; decide) ?_
  have hb := l1Byte code s.1 s.2 hi hc
  have hr := byteV_rng code s.1 (stepH s.2)
  have hbl : bl code n s = Int.tmod (byteV code s.1 (stepH s.2)) n := rfl
  have hnx : curS code (nx code s) = cur code (byteI code s.1) (stepH s.2) := rfl
  have hcs : curS code s = cur code s.1 s.2 := rfl
  rw [hbl, hnx]
  simp only [hcs]
  generalize byteV code s.1 (stepH s.2) = v at *
  generalize byteI code s.1 = i' at *
  generalize stepH s.2 = h' at *
  refine stp ?_; try with_reducible exact True.intro
  refine brF (decide_eq_false (by omega)) ?_
  refine stp ?_; try with_reducible exact True.intro
  refine brT (decide_eq_true (by omega)) ?_
  refine stp ?_; try with_reducible exact True.intro
  refine useI [0] (hb) ?_; try with_reducible exact True.intro
  exact ⟨.frz [], [0], ⟨rfl, trivial⟩, ⟨rfl, trivial⟩, by decide, rfl, rfl, rfl⟩
end Go.Proofs.YtaoepnmhflmhhaaTv
end
section
open Go Go.Proofs.YtaoepnmhflmhhaaVe Go.Proofs.YtaoepnmhflmhhaaTv Go.Proofs
namespace Go.Proofs.YtaoepnmhflmhhaaTv
set_option maxRecDepth 8000
set_option maxHeartbeats 2000000
theorem l1Once (code : List Int) (s : Cu) (n : Int) (hi : okS code s) (hc : (code.length : Int) ≤ 1048576) (hn : 1 ≤ n ∧ n ≤ 256) : ConI Try.prog 87 [.pcell 0 0, .i n] [curS code s] (.b (decide (bl code n s = 0))) [curS code (nx code s)] := by
  refine conI_of hmix hTab Try.func87 rfl rfl (by kernel_rfl) (by show 2 ≤ Try.f87.ntmps; decide) ?_
  have hb := l1Below code s n hi hc hn
  generalize bl code n s = v at *
  refine stp ?_; try with_reducible exact True.intro
  refine useI [0] (hb) ?_; try with_reducible exact True.intro
  exact ⟨.frz [], [0], ⟨rfl, trivial⟩, ⟨rfl, trivial⟩, by decide, rfl, rfl, rfl⟩
theorem l1PickInt (code : List Int) (s : Cu) (l : List Int) (hi : okS code s) (hc : (code.length : Int) ≤ 1048576) (hn : 1 ≤ l.length ∧ l.length ≤ 256) : ConI Try.prog 94 [.pcell 0 0, .own 1 0 l.length] [curS code s, .arr (.int .i64) l true] (.i (rd l (bl code l.length s))) [curS code (nx code s), .arr (.int .i64) l true] := by
  refine conI_of hmix hTab Try.func94 rfl rfl (by kernel_rfl) (by show 2 ≤ Try.f94.ntmps; decide) ?_
  have hb := l1Below code s l.length hi hc (by omega)
  have hr := bl_rng code (n := l.length) (by omega) s
  generalize bl code l.length s = v at *
  refine stp ?_; try with_reducible exact True.intro
  refine useI [0] (hb) ?_; try with_reducible exact True.intro
  exact ⟨.frz [], [0, 1], ⟨rfl, trivial⟩, ⟨rfl, rfl, trivial⟩, by decide, rfl, rfl, rfl⟩
abbrev Sf := Int × Int × Int
def sfV (x : Sf) : V := .agg [.i x.1, .i x.2.1, .i x.2.2]
/-- The draws of l4Draw: borders, which way, a number, a last one, a changed one. -/
def d4 (code : List Int) (s : Cu) : Sf × Cu :=
  let b := rd [0, 0, 1, 2, 3] (bl code 5 s)
  let s1 := nx code s
  let s2 := nx code s1
  let s3 := nx code s2
  let hc : Int × Int := if bl code 2 s1 = 0 then (bl code 4 s2, 0) else (0, bl code 5 s2)
  let s4 := nx code s3
  if bl code 20 s3 = 0 then ((rd [-1, 20, 21, 1] (bl code 4 s4), hc.2, b), nx code s4)
  else if bl code 20 s3 = 1 then ((hc.1, hc.2, rd [-1, 20, 21] (bl code 3 s4)), nx code s4)
  else ((hc.1, hc.2, b), s4)
theorem l4Draw (code : List Int) (s : Cu) (hi : okS code s) (hc : (code.length : Int) ≤ 1048576) : ConI Try.prog 86 [.pcell 0 0] [curS code s] (sfV (d4 code s).1) [curS code (d4 code s).2] := by
  refine conI_of hmix hTab Try.func86 rfl rfl (by kernel_rfl) (by show 1 ≤ Try.f86.ntmps; decide) ?_
  have p1 := l1PickInt code s [0, 0, 1, 2, 3] hi hc (by decide)
  have i1 := nx_ok hi
  have p2 := l1Once code (nx code s) 2 i1 hc (by decide)
  have i2 := nx_ok i1
  have p3 := l1Below code (nx code (nx code s)) 4 i2 hc (by decide)
  have p3' := l1Below code (nx code (nx code s)) 5 i2 hc (by decide)
  have i3 := nx_ok i2
  have p4 := l1Below code (nx code (nx code (nx code s))) 20 i3 hc (by decide)
  have i4 := nx_ok i3
  have p5 := l1PickInt code (nx code (nx code (nx code (nx code s)))) [-1, 20, 21, 1] i4 hc (by decide)
  have p5' := l1PickInt code (nx code (nx code (nx code (nx code s)))) [-1, 20, 21] i4 hc (by decide)
  unfold d4
  dsimp only
  simp only [show (([0, 0, 1, 2, 3] : List Int).length : Int) = 5 from rfl, show (([-1, 20, 21, 1] : List Int).length : Int) = 4 from rfl, show (([-1, 20, 21] : List Int).length : Int) = 3 from rfl] at p1 p5 p5'
  generalize rd [0, 0, 1, 2, 3] (bl code 5 s) = b at *
  generalize nx code s = s1 at *
  generalize nx code s1 = s2 at *
  generalize nx code s2 = s3 at *
  generalize nx code s3 = s4 at *
  generalize nx code s4 = s5 at *
  generalize rd [-1, 20, 21, 1] (bl code 4 s4) = h9 at *
  generalize rd [-1, 20, 21] (bl code 3 s4) = b9 at *
  generalize bl code 20 s3 = v4 at *
  generalize bl code 4 s2 = v3 at *
  generalize bl code 5 s2 = v3' at *
  refine stp ?_; try with_reducible exact True.intro
  refine useI [0, 2] (p1) ?_; try with_reducible exact True.intro
  refine useI [0] (p2) ?_; try with_reducible exact True.intro
  by_cases c1 : bl code 2 s1 = 0
  · simp only [c1, if_true]
    refine brT (by simp) ?_
    refine stp ?_; try with_reducible exact True.intro
    refine useI [0] (p3) ?_; try with_reducible exact True.intro
    refine useI [0] (p4) ?_; try with_reducible exact True.intro
    by_cases c2 : v4 = 0
    · simp only [c2, if_true]
      refine brT (by simp) ?_
      refine stp ?_; try with_reducible exact True.intro
      refine useI [0, 4] (p5) ?_; try with_reducible exact True.intro
      exact ⟨.frz [], [0], ⟨rfl, trivial⟩, ⟨rfl, trivial⟩, by decide, rfl, rfl, rfl⟩
    · simp only [c2, if_false]
      refine brF (by simp [c2]) ?_
      refine stp ?_; try with_reducible exact True.intro
      by_cases c3 : v4 = 1
      · simp only [c3, if_true]
        refine brT (by simp) ?_
        refine stp ?_; try with_reducible exact True.intro
        refine useI [0, 4] (p5') ?_; try with_reducible exact True.intro
        exact ⟨.frz [], [0], ⟨rfl, trivial⟩, ⟨rfl, trivial⟩, by decide, rfl, rfl, rfl⟩
      · simp only [c3, if_false]
        refine brF (by simp [c3]) ?_
        refine stp ?_; try with_reducible exact True.intro
        exact ⟨.frz [], [0], ⟨rfl, trivial⟩, ⟨rfl, trivial⟩, by decide, rfl, rfl, rfl⟩
  · simp only [c1, if_false]
    refine brF (by simp [c1]) ?_
    refine stp ?_; try with_reducible exact True.intro
    refine useI [0] (p3') ?_; try with_reducible exact True.intro
    refine useI [0] (p4) ?_; try with_reducible exact True.intro
    by_cases c2 : v4 = 0
    · simp only [c2, if_true]
      refine brT (by simp) ?_
      refine stp ?_; try with_reducible exact True.intro
      refine useI [0, 4] (p5) ?_; try with_reducible exact True.intro
      exact ⟨.frz [], [0], ⟨rfl, trivial⟩, ⟨rfl, trivial⟩, by decide, rfl, rfl, rfl⟩
    · simp only [c2, if_false]
      refine brF (by simp [c2]) ?_
      refine stp ?_; try with_reducible exact True.intro
      by_cases c3 : v4 = 1
      · simp only [c3, if_true]
        refine brT (by simp) ?_
        refine stp ?_; try with_reducible exact True.intro
        refine useI [0, 4] (p5') ?_; try with_reducible exact True.intro
        exact ⟨.frz [], [0], ⟨rfl, trivial⟩, ⟨rfl, trivial⟩, by decide, rfl, rfl, rfl⟩
      · simp only [c3, if_false]
        refine brF (by simp [c3]) ?_
        refine stp ?_; try with_reducible exact True.intro
        exact ⟨.frz [], [0], ⟨rfl, trivial⟩, ⟨rfl, trivial⟩, by decide, rfl, rfl, rfl⟩
theorem d4_rng (code : List Int) (s : Cu) : (-1 ≤ (d4 code s).1.1 ∧ (d4 code s).1.1 ≤ 21) ∧ (0 ≤ (d4 code s).1.2.1 ∧ (d4 code s).1.2.1 ≤ 21) ∧ (-1 ≤ (d4 code s).1.2.2 ∧ (d4 code s).1.2.2 ≤ 21) := by
  have hr : ∀ (l : List Int) (x : Int), (∀ y ∈ l, -1 ≤ y ∧ y ≤ 21) → -1 ≤ rd l x ∧ rd l x ≤ 21 := fun l x h => by
    unfold rd
    rw [List.getD_eq_getElem?_getD]
    cases hx : l[x.toNat]? with
    | none => simp
    | some y => exact h y (List.mem_of_getElem? hx)
  have h1 := hr [0, 0, 1, 2, 3] (bl code 5 s) (by decide)
  have h2 := hr [-1, 20, 21, 1] (bl code 4 (nx code (nx code (nx code (nx code s))))) (by decide)
  have h3 := hr [-1, 20, 21] (bl code 3 (nx code (nx code (nx code (nx code s))))) (by decide)
  have h4 := bl_rng code (n := 4) (by decide) (nx code (nx code s))
  have h5 := bl_rng code (n := 5) (by decide) (nx code (nx code s))
  unfold d4
  dsimp only
  split <;> split <;> (try split) <;> dsimp only <;> omega
theorem d4_ok {code : List Int} {s : Cu} (h : okS code s) : okS code (d4 code s).2 := by
  have h4 := nx_ok (nx_ok (nx_ok (nx_ok h)))
  unfold d4
  dsimp only
  split
  · exact nx_ok h4
  · split
    · exact nx_ok h4
    · exact h4
def d21 (code : List Int) (s : Cu) : Sf × Cu := if bl code 5 (d4 code s).2 = 0 then ((d4 code s).1, nx code (d4 code s).2) else (((d4 code s).1.1, 0, (d4 code s).1.2.2), nx code (d4 code s).2)
theorem d21_rng (code : List Int) (s : Cu) : (-1 ≤ (d21 code s).1.1 ∧ (d21 code s).1.1 ≤ 21) ∧ (0 ≤ (d21 code s).1.2.1 ∧ (d21 code s).1.2.1 ≤ 21) ∧ (-1 ≤ (d21 code s).1.2.2 ∧ (d21 code s).1.2.2 ≤ 21) := by
  have h := d4_rng code s
  unfold d21
  split <;> dsimp only <;> omega
theorem d21_ok {code : List Int} {s : Cu} (h : okS code s) : okS code (d21 code s).2 := by
  have h4 := nx_ok (d4_ok h)
  unfold d21
  split <;> exact h4
theorem l21Draw (code : List Int) (s : Cu) (hi : okS code s) (hc : (code.length : Int) ≤ 1048576) : ConI Try.prog 63 [.pcell 0 0] [curS code s] (sfV (d21 code s).1) [curS code (d21 code s).2] := by
  refine conI_of hmix hTab Try.func63 rfl rfl (by kernel_rfl) (by show 1 ≤ Try.f63.ntmps; decide) ?_
  have p1 := l4Draw code s hi hc
  have p2 := l1Once code (d4 code s).2 5 (d4_ok hi) hc (by decide)
  unfold d21
  generalize d4 code s = d at *
  obtain ⟨⟨h, c, b⟩, t⟩ := d
  dsimp only at p1 p2 ⊢
  generalize nx code t = t2 at *
  refine stp ?_; try with_reducible exact True.intro
  refine useI [0] (p1) ?_; try with_reducible exact True.intro
  refine useI [0] (p2) ?_; try with_reducible exact True.intro
  by_cases c1 : bl code 5 t = 0
  · simp only [c1, if_true]
    refine brF (by simp) ?_
    refine stp ?_; try with_reducible exact True.intro
    exact ⟨.frz [], [0], ⟨rfl, trivial⟩, ⟨rfl, trivial⟩, by decide, rfl, rfl, rfl⟩
  · simp only [c1, if_false]
    refine brT (by simp) ?_
    refine stp ?_; try with_reducible exact True.intro
    exact ⟨.frz [], [0], ⟨rfl, trivial⟩, ⟨rfl, trivial⟩, by decide, rfl, rfl, rfl⟩
theorem DrawCutAround (code : List Int) (hc : (code.length : Int) ≤ 1048576) : ConT Try.prog 27 [.val (.list (.int .u8)) code] (sfV (d21 code (s0 code)).1) [] := by
  refine conT_of hmix hTab Try.func27 rfl rfl (by kernel_rfl) (by show 1 ≤ Try.f27.ntmps; decide) ?_
  have p1 := l21Draw code (s0 code) (s0_ok code) hc
  refine stp ?_; try with_reducible exact True.intro
  refine useT (l1New code hc) ?_; try with_reducible exact True.intro
  refine useI [1] (p1) ?_; try with_reducible exact True.intro
  exact ⟨.frz [], [], ⟨rfl, trivial⟩, trivial, by decide, rfl, rfl, rfl⟩
theorem DrawJoinBorders (code : List Int) (hc : (code.length : Int) ≤ 1048576) : ConT Try.prog 34 [.val (.list (.int .u8)) code] (.tup [sfV (d21 code (s0 code)).1, sfV (d21 code (d21 code (s0 code)).2).1]) [] := by
  refine conT_of hmix hTab Try.func34 rfl rfl (by kernel_rfl) (by show 1 ≤ Try.f34.ntmps; decide) ?_
  have p1 := l21Draw code (s0 code) (s0_ok code) hc
  have p2 := l21Draw code (d21 code (s0 code)).2 (d21_ok (s0_ok code)) hc
  refine stp ?_; try with_reducible exact True.intro
  refine useT (l1New code hc) ?_; try with_reducible exact True.intro
  refine useI [2] (p1) ?_; try with_reducible exact True.intro
  refine useI [2] (p2) ?_; try with_reducible exact True.intro
  exact ⟨.frz [], [], ⟨rfl, trivial⟩, trivial, by decide, rfl, rfl, rfl⟩
theorem DrawSurfacesWith (code : List Int) (hc : (code.length : Int) ≤ 1048576) : ConT Try.prog 37 [.val (.list (.int .u8)) code] (.i (bl code 15 (s0 code) - 11)) [] := by
  refine conT_of hmix hTab Try.func37 rfl rfl (by kernel_rfl) (by show 1 ≤ Try.f37.ntmps; decide) ?_
  have p1 := l1Below code (s0 code) 15 (s0_ok code) hc (by decide)
  have hr := bl_rng code (n := 15) (by decide) (s0 code)
  generalize bl code 15 (s0 code) = v at *
  refine stp ?_; try with_reducible exact True.intro
  refine useT (l1New code hc) ?_; try with_reducible exact True.intro
  refine useI [0] (p1) ?_; try with_reducible exact True.intro
  exact ⟨.frz [], [], ⟨rfl, trivial⟩, trivial, by decide, rfl, rfl, rfl⟩
end Go.Proofs.YtaoepnmhflmhhaaTv
end
section
open Go Go.Proofs.YtaoepnmhflmhhaaVe Go.Proofs.YtaoepnmhflmhhaaTv Go.Proofs
namespace Go.Proofs.YtaoepnmhflmhhaaTv
set_option maxRecDepth 8000
set_option maxHeartbeats 2000000
/-- A surface. -/
def isS (x : Sf) : Bool := decide (0 ≤ x.1 ∧ x.1 ≤ 20) && decide (0 ≤ x.2.1 ∧ x.2.1 ≤ 20) && decide (0 ≤ x.2.2 ∧ x.2.2 ≤ 20) && (decide (x.1 = 0) || decide (x.2.1 = 0))
theorem IsSurfaceI (x : Sf) : ConS Try.prog 69 [sfV x] (.b (isS x)) := by
  obtain ⟨h, c, b⟩ := x
  have w1 := within h 0 20
  have w2 := within c 0 20
  have w3 := within b 0 20
  refine conS_of hmix hTab Try.func69 rfl rfl (by kernel_rfl) (by show 1 ≤ Try.f69.ntmps; decide) rfl ?_
  unfold isS
  dsimp only [sfV]
  generalize decide (0 ≤ h ∧ h ≤ 20) = p1 at *
  generalize decide (0 ≤ c ∧ c ≤ 20) = p2 at *
  generalize decide (0 ≤ b ∧ b ≤ 20) = p3 at *
  repeat (first | (with_reducible refine wpKs ?_) | (with_reducible refine wpKb ?_) | (with_reducible refine wpKbn ?_) | (with_reducible refine wpKk ?_) | (refine wpKt rfl ?_) | (refine wpKf rfl ?_) | (with_reducible refine wpKr ?_) | ((with_reducible refine wpKd ?_ ?_); kernel_rfl) | (with_reducible refine wpKn ?_) | (with_reducible refine seqKn ?_) | (with_reducible refine drawKn ?_) | (first | refine seqKs rfl rfl rfl rfl ?_ | refine seqKu rfl rfl rfl rfl ?_ | refine drawKs rfl rfl rfl rfl ?_ | refine drawKu rfl rfl rfl rfl ?_) | ((first | refine seqK rfl rfl (fun K' hK => ?_) | refine seqKr rfl rfl rfl rfl (fun K' hK => ?_)); refine stp ?_; with_reducible refine hK _ _ ?_; clear hK K') | ((first | refine drawK rfl rfl (fun K' hK => ?_) | refine drawKr rfl rfl rfl rfl (fun K' hK => ?_)); refine stp ?_; with_reducible refine hK _ _ _ ?_; clear hK K') | (refine seqKz rfl rfl (fun K' hK => ?_); refine stp ?_; with_reducible refine hK _ ?_; clear hK K') | (refine drawKz rfl rfl (fun K' hK => ?_); refine stp ?_; with_reducible refine hK _ _ ?_; clear hK K'))
  (first | refine seqK rfl rfl (fun K' hK => ?_) | refine seqKr rfl rfl rfl rfl (fun K' hK => ?_)); (conv => whnf); refine useT (w1.toT) ?_; with_reducible refine hK _ _ ?_; clear hK K'; repeat (first | (with_reducible refine wpKs ?_) | (with_reducible refine wpKb ?_) | (with_reducible refine wpKbn ?_) | (with_reducible refine wpKk ?_) | (refine wpKt rfl ?_) | (refine wpKf rfl ?_) | (with_reducible refine wpKr ?_) | ((with_reducible refine wpKd ?_ ?_); kernel_rfl) | (with_reducible refine wpKn ?_) | (with_reducible refine seqKn ?_) | (with_reducible refine drawKn ?_) | (first | refine seqKs rfl rfl rfl rfl ?_ | refine seqKu rfl rfl rfl rfl ?_ | refine drawKs rfl rfl rfl rfl ?_ | refine drawKu rfl rfl rfl rfl ?_) | ((first | refine seqK rfl rfl (fun K' hK => ?_) | refine seqKr rfl rfl rfl rfl (fun K' hK => ?_)); refine stp ?_; with_reducible refine hK _ _ ?_; clear hK K') | ((first | refine drawK rfl rfl (fun K' hK => ?_) | refine drawKr rfl rfl rfl rfl (fun K' hK => ?_)); refine stp ?_; with_reducible refine hK _ _ _ ?_; clear hK K') | (refine seqKz rfl rfl (fun K' hK => ?_); refine stp ?_; with_reducible refine hK _ ?_; clear hK K') | (refine drawKz rfl rfl (fun K' hK => ?_); refine stp ?_; with_reducible refine hK _ _ ?_; clear hK K'))
  cases p1
  · repeat (first | (with_reducible refine wpKs ?_) | (with_reducible refine wpKb ?_) | (with_reducible refine wpKbn ?_) | (with_reducible refine wpKk ?_) | (refine wpKt rfl ?_) | (refine wpKf rfl ?_) | (with_reducible refine wpKr ?_) | ((with_reducible refine wpKd ?_ ?_); kernel_rfl) | (with_reducible refine wpKn ?_) | (with_reducible refine seqKn ?_) | (with_reducible refine drawKn ?_) | (first | refine seqKs rfl rfl rfl rfl ?_ | refine seqKu rfl rfl rfl rfl ?_ | refine drawKs rfl rfl rfl rfl ?_ | refine drawKu rfl rfl rfl rfl ?_) | ((first | refine seqK rfl rfl (fun K' hK => ?_) | refine seqKr rfl rfl rfl rfl (fun K' hK => ?_)); refine stp ?_; with_reducible refine hK _ _ ?_; clear hK K') | ((first | refine drawK rfl rfl (fun K' hK => ?_) | refine drawKr rfl rfl rfl rfl (fun K' hK => ?_)); refine stp ?_; with_reducible refine hK _ _ _ ?_; clear hK K') | (refine seqKz rfl rfl (fun K' hK => ?_); refine stp ?_; with_reducible refine hK _ ?_; clear hK K') | (refine drawKz rfl rfl (fun K' hK => ?_); refine stp ?_; with_reducible refine hK _ _ ?_; clear hK K'))
    refine stp ?_; try with_reducible exact True.intro
    rfl
  · repeat (first | (with_reducible refine wpKs ?_) | (with_reducible refine wpKb ?_) | (with_reducible refine wpKbn ?_) | (with_reducible refine wpKk ?_) | (refine wpKt rfl ?_) | (refine wpKf rfl ?_) | (with_reducible refine wpKr ?_) | ((with_reducible refine wpKd ?_ ?_); kernel_rfl) | (with_reducible refine wpKn ?_) | (with_reducible refine seqKn ?_) | (with_reducible refine drawKn ?_) | (first | refine seqKs rfl rfl rfl rfl ?_ | refine seqKu rfl rfl rfl rfl ?_ | refine drawKs rfl rfl rfl rfl ?_ | refine drawKu rfl rfl rfl rfl ?_) | ((first | refine seqK rfl rfl (fun K' hK => ?_) | refine seqKr rfl rfl rfl rfl (fun K' hK => ?_)); refine stp ?_; with_reducible refine hK _ _ ?_; clear hK K') | ((first | refine drawK rfl rfl (fun K' hK => ?_) | refine drawKr rfl rfl rfl rfl (fun K' hK => ?_)); refine stp ?_; with_reducible refine hK _ _ _ ?_; clear hK K') | (refine seqKz rfl rfl (fun K' hK => ?_); refine stp ?_; with_reducible refine hK _ ?_; clear hK K') | (refine drawKz rfl rfl (fun K' hK => ?_); refine stp ?_; with_reducible refine hK _ _ ?_; clear hK K'))
    (first | refine seqK rfl rfl (fun K' hK => ?_) | refine seqKr rfl rfl rfl rfl (fun K' hK => ?_)); (conv => whnf); refine useT (w2.toT) ?_; with_reducible refine hK _ _ ?_; clear hK K'; repeat (first | (with_reducible refine wpKs ?_) | (with_reducible refine wpKb ?_) | (with_reducible refine wpKbn ?_) | (with_reducible refine wpKk ?_) | (refine wpKt rfl ?_) | (refine wpKf rfl ?_) | (with_reducible refine wpKr ?_) | ((with_reducible refine wpKd ?_ ?_); kernel_rfl) | (with_reducible refine wpKn ?_) | (with_reducible refine seqKn ?_) | (with_reducible refine drawKn ?_) | (first | refine seqKs rfl rfl rfl rfl ?_ | refine seqKu rfl rfl rfl rfl ?_ | refine drawKs rfl rfl rfl rfl ?_ | refine drawKu rfl rfl rfl rfl ?_) | ((first | refine seqK rfl rfl (fun K' hK => ?_) | refine seqKr rfl rfl rfl rfl (fun K' hK => ?_)); refine stp ?_; with_reducible refine hK _ _ ?_; clear hK K') | ((first | refine drawK rfl rfl (fun K' hK => ?_) | refine drawKr rfl rfl rfl rfl (fun K' hK => ?_)); refine stp ?_; with_reducible refine hK _ _ _ ?_; clear hK K') | (refine seqKz rfl rfl (fun K' hK => ?_); refine stp ?_; with_reducible refine hK _ ?_; clear hK K') | (refine drawKz rfl rfl (fun K' hK => ?_); refine stp ?_; with_reducible refine hK _ _ ?_; clear hK K'))
    cases p2
    · repeat (first | (with_reducible refine wpKs ?_) | (with_reducible refine wpKb ?_) | (with_reducible refine wpKbn ?_) | (with_reducible refine wpKk ?_) | (refine wpKt rfl ?_) | (refine wpKf rfl ?_) | (with_reducible refine wpKr ?_) | ((with_reducible refine wpKd ?_ ?_); kernel_rfl) | (with_reducible refine wpKn ?_) | (with_reducible refine seqKn ?_) | (with_reducible refine drawKn ?_) | (first | refine seqKs rfl rfl rfl rfl ?_ | refine seqKu rfl rfl rfl rfl ?_ | refine drawKs rfl rfl rfl rfl ?_ | refine drawKu rfl rfl rfl rfl ?_) | ((first | refine seqK rfl rfl (fun K' hK => ?_) | refine seqKr rfl rfl rfl rfl (fun K' hK => ?_)); refine stp ?_; with_reducible refine hK _ _ ?_; clear hK K') | ((first | refine drawK rfl rfl (fun K' hK => ?_) | refine drawKr rfl rfl rfl rfl (fun K' hK => ?_)); refine stp ?_; with_reducible refine hK _ _ _ ?_; clear hK K') | (refine seqKz rfl rfl (fun K' hK => ?_); refine stp ?_; with_reducible refine hK _ ?_; clear hK K') | (refine drawKz rfl rfl (fun K' hK => ?_); refine stp ?_; with_reducible refine hK _ _ ?_; clear hK K'))
      refine stp ?_; try with_reducible exact True.intro
      rfl
    · repeat (first | (with_reducible refine wpKs ?_) | (with_reducible refine wpKb ?_) | (with_reducible refine wpKbn ?_) | (with_reducible refine wpKk ?_) | (refine wpKt rfl ?_) | (refine wpKf rfl ?_) | (with_reducible refine wpKr ?_) | ((with_reducible refine wpKd ?_ ?_); kernel_rfl) | (with_reducible refine wpKn ?_) | (with_reducible refine seqKn ?_) | (with_reducible refine drawKn ?_) | (first | refine seqKs rfl rfl rfl rfl ?_ | refine seqKu rfl rfl rfl rfl ?_ | refine drawKs rfl rfl rfl rfl ?_ | refine drawKu rfl rfl rfl rfl ?_) | ((first | refine seqK rfl rfl (fun K' hK => ?_) | refine seqKr rfl rfl rfl rfl (fun K' hK => ?_)); refine stp ?_; with_reducible refine hK _ _ ?_; clear hK K') | ((first | refine drawK rfl rfl (fun K' hK => ?_) | refine drawKr rfl rfl rfl rfl (fun K' hK => ?_)); refine stp ?_; with_reducible refine hK _ _ _ ?_; clear hK K') | (refine seqKz rfl rfl (fun K' hK => ?_); refine stp ?_; with_reducible refine hK _ ?_; clear hK K') | (refine drawKz rfl rfl (fun K' hK => ?_); refine stp ?_; with_reducible refine hK _ _ ?_; clear hK K'))
      (first | refine seqK rfl rfl (fun K' hK => ?_) | refine seqKr rfl rfl rfl rfl (fun K' hK => ?_)); (conv => whnf); refine useT (w3.toT) ?_; with_reducible refine hK _ _ ?_; clear hK K'; repeat (first | (with_reducible refine wpKs ?_) | (with_reducible refine wpKb ?_) | (with_reducible refine wpKbn ?_) | (with_reducible refine wpKk ?_) | (refine wpKt rfl ?_) | (refine wpKf rfl ?_) | (with_reducible refine wpKr ?_) | ((with_reducible refine wpKd ?_ ?_); kernel_rfl) | (with_reducible refine wpKn ?_) | (with_reducible refine seqKn ?_) | (with_reducible refine drawKn ?_) | (first | refine seqKs rfl rfl rfl rfl ?_ | refine seqKu rfl rfl rfl rfl ?_ | refine drawKs rfl rfl rfl rfl ?_ | refine drawKu rfl rfl rfl rfl ?_) | ((first | refine seqK rfl rfl (fun K' hK => ?_) | refine seqKr rfl rfl rfl rfl (fun K' hK => ?_)); refine stp ?_; with_reducible refine hK _ _ ?_; clear hK K') | ((first | refine drawK rfl rfl (fun K' hK => ?_) | refine drawKr rfl rfl rfl rfl (fun K' hK => ?_)); refine stp ?_; with_reducible refine hK _ _ _ ?_; clear hK K') | (refine seqKz rfl rfl (fun K' hK => ?_); refine stp ?_; with_reducible refine hK _ ?_; clear hK K') | (refine drawKz rfl rfl (fun K' hK => ?_); refine stp ?_; with_reducible refine hK _ _ ?_; clear hK K'))
      cases p3
      · repeat (first | (with_reducible refine wpKs ?_) | (with_reducible refine wpKb ?_) | (with_reducible refine wpKbn ?_) | (with_reducible refine wpKk ?_) | (refine wpKt rfl ?_) | (refine wpKf rfl ?_) | (with_reducible refine wpKr ?_) | ((with_reducible refine wpKd ?_ ?_); kernel_rfl) | (with_reducible refine wpKn ?_) | (with_reducible refine seqKn ?_) | (with_reducible refine drawKn ?_) | (first | refine seqKs rfl rfl rfl rfl ?_ | refine seqKu rfl rfl rfl rfl ?_ | refine drawKs rfl rfl rfl rfl ?_ | refine drawKu rfl rfl rfl rfl ?_) | ((first | refine seqK rfl rfl (fun K' hK => ?_) | refine seqKr rfl rfl rfl rfl (fun K' hK => ?_)); refine stp ?_; with_reducible refine hK _ _ ?_; clear hK K') | ((first | refine drawK rfl rfl (fun K' hK => ?_) | refine drawKr rfl rfl rfl rfl (fun K' hK => ?_)); refine stp ?_; with_reducible refine hK _ _ _ ?_; clear hK K') | (refine seqKz rfl rfl (fun K' hK => ?_); refine stp ?_; with_reducible refine hK _ ?_; clear hK K') | (refine drawKz rfl rfl (fun K' hK => ?_); refine stp ?_; with_reducible refine hK _ _ ?_; clear hK K'))
        refine stp ?_; try with_reducible exact True.intro
        rfl
      · repeat (first | (with_reducible refine wpKs ?_) | (with_reducible refine wpKb ?_) | (with_reducible refine wpKbn ?_) | (with_reducible refine wpKk ?_) | (refine wpKt rfl ?_) | (refine wpKf rfl ?_) | (with_reducible refine wpKr ?_) | ((with_reducible refine wpKd ?_ ?_); kernel_rfl) | (with_reducible refine wpKn ?_) | (with_reducible refine seqKn ?_) | (with_reducible refine drawKn ?_) | (first | refine seqKs rfl rfl rfl rfl ?_ | refine seqKu rfl rfl rfl rfl ?_ | refine drawKs rfl rfl rfl rfl ?_ | refine drawKu rfl rfl rfl rfl ?_) | ((first | refine seqK rfl rfl (fun K' hK => ?_) | refine seqKr rfl rfl rfl rfl (fun K' hK => ?_)); refine stp ?_; with_reducible refine hK _ _ ?_; clear hK K') | ((first | refine drawK rfl rfl (fun K' hK => ?_) | refine drawKr rfl rfl rfl rfl (fun K' hK => ?_)); refine stp ?_; with_reducible refine hK _ _ _ ?_; clear hK K') | (refine seqKz rfl rfl (fun K' hK => ?_); refine stp ?_; with_reducible refine hK _ ?_; clear hK K') | (refine drawKz rfl rfl (fun K' hK => ?_); refine stp ?_; with_reducible refine hK _ _ ?_; clear hK K'))
        generalize decide (h = 0) = q
        cases q
        · repeat (first | (with_reducible refine wpKs ?_) | (with_reducible refine wpKb ?_) | (with_reducible refine wpKbn ?_) | (with_reducible refine wpKk ?_) | (refine wpKt rfl ?_) | (refine wpKf rfl ?_) | (with_reducible refine wpKr ?_) | ((with_reducible refine wpKd ?_ ?_); kernel_rfl) | (with_reducible refine wpKn ?_) | (with_reducible refine seqKn ?_) | (with_reducible refine drawKn ?_) | (first | refine seqKs rfl rfl rfl rfl ?_ | refine seqKu rfl rfl rfl rfl ?_ | refine drawKs rfl rfl rfl rfl ?_ | refine drawKu rfl rfl rfl rfl ?_) | ((first | refine seqK rfl rfl (fun K' hK => ?_) | refine seqKr rfl rfl rfl rfl (fun K' hK => ?_)); refine stp ?_; with_reducible refine hK _ _ ?_; clear hK K') | ((first | refine drawK rfl rfl (fun K' hK => ?_) | refine drawKr rfl rfl rfl rfl (fun K' hK => ?_)); refine stp ?_; with_reducible refine hK _ _ _ ?_; clear hK K') | (refine seqKz rfl rfl (fun K' hK => ?_); refine stp ?_; with_reducible refine hK _ ?_; clear hK K') | (refine drawKz rfl rfl (fun K' hK => ?_); refine stp ?_; with_reducible refine hK _ _ ?_; clear hK K'))
          refine stp ?_; try with_reducible exact True.intro
          first | rfl | (simp; done)
        · repeat (first | (with_reducible refine wpKs ?_) | (with_reducible refine wpKb ?_) | (with_reducible refine wpKbn ?_) | (with_reducible refine wpKk ?_) | (refine wpKt rfl ?_) | (refine wpKf rfl ?_) | (with_reducible refine wpKr ?_) | ((with_reducible refine wpKd ?_ ?_); kernel_rfl) | (with_reducible refine wpKn ?_) | (with_reducible refine seqKn ?_) | (with_reducible refine drawKn ?_) | (first | refine seqKs rfl rfl rfl rfl ?_ | refine seqKu rfl rfl rfl rfl ?_ | refine drawKs rfl rfl rfl rfl ?_ | refine drawKu rfl rfl rfl rfl ?_) | ((first | refine seqK rfl rfl (fun K' hK => ?_) | refine seqKr rfl rfl rfl rfl (fun K' hK => ?_)); refine stp ?_; with_reducible refine hK _ _ ?_; clear hK K') | ((first | refine drawK rfl rfl (fun K' hK => ?_) | refine drawKr rfl rfl rfl rfl (fun K' hK => ?_)); refine stp ?_; with_reducible refine hK _ _ _ ?_; clear hK K') | (refine seqKz rfl rfl (fun K' hK => ?_); refine stp ?_; with_reducible refine hK _ ?_; clear hK K') | (refine drawKz rfl rfl (fun K' hK => ?_); refine stp ?_; with_reducible refine hK _ _ ?_; clear hK K'))
          refine stp ?_; try with_reducible exact True.intro
          rfl
theorem IsSurfaceS (x : Sf) : ConS Try.prog 46 [sfV x] (.b (isS x)) := by
  obtain ⟨h, c, b⟩ := x
  have w1 := l1In h 0 20
  have w2 := l1In c 0 20
  have w3 := l1In b 0 20
  refine conS_of hmix hTab Try.func46 rfl rfl (by kernel_rfl) (by show 1 ≤ Try.f46.ntmps; decide) rfl ?_
  unfold isS
  dsimp only [sfV]
  generalize decide (0 ≤ h ∧ h ≤ 20) = p1 at *
  generalize decide (0 ≤ c ∧ c ≤ 20) = p2 at *
  generalize decide (0 ≤ b ∧ b ≤ 20) = p3 at *
  repeat (first | (with_reducible refine wpKs ?_) | (with_reducible refine wpKb ?_) | (with_reducible refine wpKbn ?_) | (with_reducible refine wpKk ?_) | (refine wpKt rfl ?_) | (refine wpKf rfl ?_) | (with_reducible refine wpKr ?_) | ((with_reducible refine wpKd ?_ ?_); kernel_rfl) | (with_reducible refine wpKn ?_) | (with_reducible refine seqKn ?_) | (with_reducible refine drawKn ?_) | (first | refine seqKs rfl rfl rfl rfl ?_ | refine seqKu rfl rfl rfl rfl ?_ | refine drawKs rfl rfl rfl rfl ?_ | refine drawKu rfl rfl rfl rfl ?_) | ((first | refine seqK rfl rfl (fun K' hK => ?_) | refine seqKr rfl rfl rfl rfl (fun K' hK => ?_)); refine stp ?_; with_reducible refine hK _ _ ?_; clear hK K') | ((first | refine drawK rfl rfl (fun K' hK => ?_) | refine drawKr rfl rfl rfl rfl (fun K' hK => ?_)); refine stp ?_; with_reducible refine hK _ _ _ ?_; clear hK K') | (refine seqKz rfl rfl (fun K' hK => ?_); refine stp ?_; with_reducible refine hK _ ?_; clear hK K') | (refine drawKz rfl rfl (fun K' hK => ?_); refine stp ?_; with_reducible refine hK _ _ ?_; clear hK K'))
  (first | refine seqK rfl rfl (fun K' hK => ?_) | refine seqKr rfl rfl rfl rfl (fun K' hK => ?_)); (conv => whnf); refine useT (w1.toT) ?_; with_reducible refine hK _ _ ?_; clear hK K'; repeat (first | (with_reducible refine wpKs ?_) | (with_reducible refine wpKb ?_) | (with_reducible refine wpKbn ?_) | (with_reducible refine wpKk ?_) | (refine wpKt rfl ?_) | (refine wpKf rfl ?_) | (with_reducible refine wpKr ?_) | ((with_reducible refine wpKd ?_ ?_); kernel_rfl) | (with_reducible refine wpKn ?_) | (with_reducible refine seqKn ?_) | (with_reducible refine drawKn ?_) | (first | refine seqKs rfl rfl rfl rfl ?_ | refine seqKu rfl rfl rfl rfl ?_ | refine drawKs rfl rfl rfl rfl ?_ | refine drawKu rfl rfl rfl rfl ?_) | ((first | refine seqK rfl rfl (fun K' hK => ?_) | refine seqKr rfl rfl rfl rfl (fun K' hK => ?_)); refine stp ?_; with_reducible refine hK _ _ ?_; clear hK K') | ((first | refine drawK rfl rfl (fun K' hK => ?_) | refine drawKr rfl rfl rfl rfl (fun K' hK => ?_)); refine stp ?_; with_reducible refine hK _ _ _ ?_; clear hK K') | (refine seqKz rfl rfl (fun K' hK => ?_); refine stp ?_; with_reducible refine hK _ ?_; clear hK K') | (refine drawKz rfl rfl (fun K' hK => ?_); refine stp ?_; with_reducible refine hK _ _ ?_; clear hK K'))
  cases p1
  · repeat (first | (with_reducible refine wpKs ?_) | (with_reducible refine wpKb ?_) | (with_reducible refine wpKbn ?_) | (with_reducible refine wpKk ?_) | (refine wpKt rfl ?_) | (refine wpKf rfl ?_) | (with_reducible refine wpKr ?_) | ((with_reducible refine wpKd ?_ ?_); kernel_rfl) | (with_reducible refine wpKn ?_) | (with_reducible refine seqKn ?_) | (with_reducible refine drawKn ?_) | (first | refine seqKs rfl rfl rfl rfl ?_ | refine seqKu rfl rfl rfl rfl ?_ | refine drawKs rfl rfl rfl rfl ?_ | refine drawKu rfl rfl rfl rfl ?_) | ((first | refine seqK rfl rfl (fun K' hK => ?_) | refine seqKr rfl rfl rfl rfl (fun K' hK => ?_)); refine stp ?_; with_reducible refine hK _ _ ?_; clear hK K') | ((first | refine drawK rfl rfl (fun K' hK => ?_) | refine drawKr rfl rfl rfl rfl (fun K' hK => ?_)); refine stp ?_; with_reducible refine hK _ _ _ ?_; clear hK K') | (refine seqKz rfl rfl (fun K' hK => ?_); refine stp ?_; with_reducible refine hK _ ?_; clear hK K') | (refine drawKz rfl rfl (fun K' hK => ?_); refine stp ?_; with_reducible refine hK _ _ ?_; clear hK K'))
    refine stp ?_; try with_reducible exact True.intro
    rfl
  · repeat (first | (with_reducible refine wpKs ?_) | (with_reducible refine wpKb ?_) | (with_reducible refine wpKbn ?_) | (with_reducible refine wpKk ?_) | (refine wpKt rfl ?_) | (refine wpKf rfl ?_) | (with_reducible refine wpKr ?_) | ((with_reducible refine wpKd ?_ ?_); kernel_rfl) | (with_reducible refine wpKn ?_) | (with_reducible refine seqKn ?_) | (with_reducible refine drawKn ?_) | (first | refine seqKs rfl rfl rfl rfl ?_ | refine seqKu rfl rfl rfl rfl ?_ | refine drawKs rfl rfl rfl rfl ?_ | refine drawKu rfl rfl rfl rfl ?_) | ((first | refine seqK rfl rfl (fun K' hK => ?_) | refine seqKr rfl rfl rfl rfl (fun K' hK => ?_)); refine stp ?_; with_reducible refine hK _ _ ?_; clear hK K') | ((first | refine drawK rfl rfl (fun K' hK => ?_) | refine drawKr rfl rfl rfl rfl (fun K' hK => ?_)); refine stp ?_; with_reducible refine hK _ _ _ ?_; clear hK K') | (refine seqKz rfl rfl (fun K' hK => ?_); refine stp ?_; with_reducible refine hK _ ?_; clear hK K') | (refine drawKz rfl rfl (fun K' hK => ?_); refine stp ?_; with_reducible refine hK _ _ ?_; clear hK K'))
    (first | refine seqK rfl rfl (fun K' hK => ?_) | refine seqKr rfl rfl rfl rfl (fun K' hK => ?_)); (conv => whnf); refine useT (w2.toT) ?_; with_reducible refine hK _ _ ?_; clear hK K'; repeat (first | (with_reducible refine wpKs ?_) | (with_reducible refine wpKb ?_) | (with_reducible refine wpKbn ?_) | (with_reducible refine wpKk ?_) | (refine wpKt rfl ?_) | (refine wpKf rfl ?_) | (with_reducible refine wpKr ?_) | ((with_reducible refine wpKd ?_ ?_); kernel_rfl) | (with_reducible refine wpKn ?_) | (with_reducible refine seqKn ?_) | (with_reducible refine drawKn ?_) | (first | refine seqKs rfl rfl rfl rfl ?_ | refine seqKu rfl rfl rfl rfl ?_ | refine drawKs rfl rfl rfl rfl ?_ | refine drawKu rfl rfl rfl rfl ?_) | ((first | refine seqK rfl rfl (fun K' hK => ?_) | refine seqKr rfl rfl rfl rfl (fun K' hK => ?_)); refine stp ?_; with_reducible refine hK _ _ ?_; clear hK K') | ((first | refine drawK rfl rfl (fun K' hK => ?_) | refine drawKr rfl rfl rfl rfl (fun K' hK => ?_)); refine stp ?_; with_reducible refine hK _ _ _ ?_; clear hK K') | (refine seqKz rfl rfl (fun K' hK => ?_); refine stp ?_; with_reducible refine hK _ ?_; clear hK K') | (refine drawKz rfl rfl (fun K' hK => ?_); refine stp ?_; with_reducible refine hK _ _ ?_; clear hK K'))
    cases p2
    · repeat (first | (with_reducible refine wpKs ?_) | (with_reducible refine wpKb ?_) | (with_reducible refine wpKbn ?_) | (with_reducible refine wpKk ?_) | (refine wpKt rfl ?_) | (refine wpKf rfl ?_) | (with_reducible refine wpKr ?_) | ((with_reducible refine wpKd ?_ ?_); kernel_rfl) | (with_reducible refine wpKn ?_) | (with_reducible refine seqKn ?_) | (with_reducible refine drawKn ?_) | (first | refine seqKs rfl rfl rfl rfl ?_ | refine seqKu rfl rfl rfl rfl ?_ | refine drawKs rfl rfl rfl rfl ?_ | refine drawKu rfl rfl rfl rfl ?_) | ((first | refine seqK rfl rfl (fun K' hK => ?_) | refine seqKr rfl rfl rfl rfl (fun K' hK => ?_)); refine stp ?_; with_reducible refine hK _ _ ?_; clear hK K') | ((first | refine drawK rfl rfl (fun K' hK => ?_) | refine drawKr rfl rfl rfl rfl (fun K' hK => ?_)); refine stp ?_; with_reducible refine hK _ _ _ ?_; clear hK K') | (refine seqKz rfl rfl (fun K' hK => ?_); refine stp ?_; with_reducible refine hK _ ?_; clear hK K') | (refine drawKz rfl rfl (fun K' hK => ?_); refine stp ?_; with_reducible refine hK _ _ ?_; clear hK K'))
      refine stp ?_; try with_reducible exact True.intro
      rfl
    · repeat (first | (with_reducible refine wpKs ?_) | (with_reducible refine wpKb ?_) | (with_reducible refine wpKbn ?_) | (with_reducible refine wpKk ?_) | (refine wpKt rfl ?_) | (refine wpKf rfl ?_) | (with_reducible refine wpKr ?_) | ((with_reducible refine wpKd ?_ ?_); kernel_rfl) | (with_reducible refine wpKn ?_) | (with_reducible refine seqKn ?_) | (with_reducible refine drawKn ?_) | (first | refine seqKs rfl rfl rfl rfl ?_ | refine seqKu rfl rfl rfl rfl ?_ | refine drawKs rfl rfl rfl rfl ?_ | refine drawKu rfl rfl rfl rfl ?_) | ((first | refine seqK rfl rfl (fun K' hK => ?_) | refine seqKr rfl rfl rfl rfl (fun K' hK => ?_)); refine stp ?_; with_reducible refine hK _ _ ?_; clear hK K') | ((first | refine drawK rfl rfl (fun K' hK => ?_) | refine drawKr rfl rfl rfl rfl (fun K' hK => ?_)); refine stp ?_; with_reducible refine hK _ _ _ ?_; clear hK K') | (refine seqKz rfl rfl (fun K' hK => ?_); refine stp ?_; with_reducible refine hK _ ?_; clear hK K') | (refine drawKz rfl rfl (fun K' hK => ?_); refine stp ?_; with_reducible refine hK _ _ ?_; clear hK K'))
      (first | refine seqK rfl rfl (fun K' hK => ?_) | refine seqKr rfl rfl rfl rfl (fun K' hK => ?_)); (conv => whnf); refine useT (w3.toT) ?_; with_reducible refine hK _ _ ?_; clear hK K'; repeat (first | (with_reducible refine wpKs ?_) | (with_reducible refine wpKb ?_) | (with_reducible refine wpKbn ?_) | (with_reducible refine wpKk ?_) | (refine wpKt rfl ?_) | (refine wpKf rfl ?_) | (with_reducible refine wpKr ?_) | ((with_reducible refine wpKd ?_ ?_); kernel_rfl) | (with_reducible refine wpKn ?_) | (with_reducible refine seqKn ?_) | (with_reducible refine drawKn ?_) | (first | refine seqKs rfl rfl rfl rfl ?_ | refine seqKu rfl rfl rfl rfl ?_ | refine drawKs rfl rfl rfl rfl ?_ | refine drawKu rfl rfl rfl rfl ?_) | ((first | refine seqK rfl rfl (fun K' hK => ?_) | refine seqKr rfl rfl rfl rfl (fun K' hK => ?_)); refine stp ?_; with_reducible refine hK _ _ ?_; clear hK K') | ((first | refine drawK rfl rfl (fun K' hK => ?_) | refine drawKr rfl rfl rfl rfl (fun K' hK => ?_)); refine stp ?_; with_reducible refine hK _ _ _ ?_; clear hK K') | (refine seqKz rfl rfl (fun K' hK => ?_); refine stp ?_; with_reducible refine hK _ ?_; clear hK K') | (refine drawKz rfl rfl (fun K' hK => ?_); refine stp ?_; with_reducible refine hK _ _ ?_; clear hK K'))
      cases p3
      · repeat (first | (with_reducible refine wpKs ?_) | (with_reducible refine wpKb ?_) | (with_reducible refine wpKbn ?_) | (with_reducible refine wpKk ?_) | (refine wpKt rfl ?_) | (refine wpKf rfl ?_) | (with_reducible refine wpKr ?_) | ((with_reducible refine wpKd ?_ ?_); kernel_rfl) | (with_reducible refine wpKn ?_) | (with_reducible refine seqKn ?_) | (with_reducible refine drawKn ?_) | (first | refine seqKs rfl rfl rfl rfl ?_ | refine seqKu rfl rfl rfl rfl ?_ | refine drawKs rfl rfl rfl rfl ?_ | refine drawKu rfl rfl rfl rfl ?_) | ((first | refine seqK rfl rfl (fun K' hK => ?_) | refine seqKr rfl rfl rfl rfl (fun K' hK => ?_)); refine stp ?_; with_reducible refine hK _ _ ?_; clear hK K') | ((first | refine drawK rfl rfl (fun K' hK => ?_) | refine drawKr rfl rfl rfl rfl (fun K' hK => ?_)); refine stp ?_; with_reducible refine hK _ _ _ ?_; clear hK K') | (refine seqKz rfl rfl (fun K' hK => ?_); refine stp ?_; with_reducible refine hK _ ?_; clear hK K') | (refine drawKz rfl rfl (fun K' hK => ?_); refine stp ?_; with_reducible refine hK _ _ ?_; clear hK K'))
        refine stp ?_; try with_reducible exact True.intro
        rfl
      · repeat (first | (with_reducible refine wpKs ?_) | (with_reducible refine wpKb ?_) | (with_reducible refine wpKbn ?_) | (with_reducible refine wpKk ?_) | (refine wpKt rfl ?_) | (refine wpKf rfl ?_) | (with_reducible refine wpKr ?_) | ((with_reducible refine wpKd ?_ ?_); kernel_rfl) | (with_reducible refine wpKn ?_) | (with_reducible refine seqKn ?_) | (with_reducible refine drawKn ?_) | (first | refine seqKs rfl rfl rfl rfl ?_ | refine seqKu rfl rfl rfl rfl ?_ | refine drawKs rfl rfl rfl rfl ?_ | refine drawKu rfl rfl rfl rfl ?_) | ((first | refine seqK rfl rfl (fun K' hK => ?_) | refine seqKr rfl rfl rfl rfl (fun K' hK => ?_)); refine stp ?_; with_reducible refine hK _ _ ?_; clear hK K') | ((first | refine drawK rfl rfl (fun K' hK => ?_) | refine drawKr rfl rfl rfl rfl (fun K' hK => ?_)); refine stp ?_; with_reducible refine hK _ _ _ ?_; clear hK K') | (refine seqKz rfl rfl (fun K' hK => ?_); refine stp ?_; with_reducible refine hK _ ?_; clear hK K') | (refine drawKz rfl rfl (fun K' hK => ?_); refine stp ?_; with_reducible refine hK _ _ ?_; clear hK K'))
        generalize decide (h = 0) = q
        cases q
        · repeat (first | (with_reducible refine wpKs ?_) | (with_reducible refine wpKb ?_) | (with_reducible refine wpKbn ?_) | (with_reducible refine wpKk ?_) | (refine wpKt rfl ?_) | (refine wpKf rfl ?_) | (with_reducible refine wpKr ?_) | ((with_reducible refine wpKd ?_ ?_); kernel_rfl) | (with_reducible refine wpKn ?_) | (with_reducible refine seqKn ?_) | (with_reducible refine drawKn ?_) | (first | refine seqKs rfl rfl rfl rfl ?_ | refine seqKu rfl rfl rfl rfl ?_ | refine drawKs rfl rfl rfl rfl ?_ | refine drawKu rfl rfl rfl rfl ?_) | ((first | refine seqK rfl rfl (fun K' hK => ?_) | refine seqKr rfl rfl rfl rfl (fun K' hK => ?_)); refine stp ?_; with_reducible refine hK _ _ ?_; clear hK K') | ((first | refine drawK rfl rfl (fun K' hK => ?_) | refine drawKr rfl rfl rfl rfl (fun K' hK => ?_)); refine stp ?_; with_reducible refine hK _ _ _ ?_; clear hK K') | (refine seqKz rfl rfl (fun K' hK => ?_); refine stp ?_; with_reducible refine hK _ ?_; clear hK K') | (refine drawKz rfl rfl (fun K' hK => ?_); refine stp ?_; with_reducible refine hK _ _ ?_; clear hK K'))
          refine stp ?_; try with_reducible exact True.intro
          first | rfl | (simp; done)
        · repeat (first | (with_reducible refine wpKs ?_) | (with_reducible refine wpKb ?_) | (with_reducible refine wpKbn ?_) | (with_reducible refine wpKk ?_) | (refine wpKt rfl ?_) | (refine wpKf rfl ?_) | (with_reducible refine wpKr ?_) | ((with_reducible refine wpKd ?_ ?_); kernel_rfl) | (with_reducible refine wpKn ?_) | (with_reducible refine seqKn ?_) | (with_reducible refine drawKn ?_) | (first | refine seqKs rfl rfl rfl rfl ?_ | refine seqKu rfl rfl rfl rfl ?_ | refine drawKs rfl rfl rfl rfl ?_ | refine drawKu rfl rfl rfl rfl ?_) | ((first | refine seqK rfl rfl (fun K' hK => ?_) | refine seqKr rfl rfl rfl rfl (fun K' hK => ?_)); refine stp ?_; with_reducible refine hK _ _ ?_; clear hK K') | ((first | refine drawK rfl rfl (fun K' hK => ?_) | refine drawKr rfl rfl rfl rfl (fun K' hK => ?_)); refine stp ?_; with_reducible refine hK _ _ _ ?_; clear hK K') | (refine seqKz rfl rfl (fun K' hK => ?_); refine stp ?_; with_reducible refine hK _ ?_; clear hK K') | (refine drawKz rfl rfl (fun K' hK => ?_); refine stp ?_; with_reducible refine hK _ _ ?_; clear hK K'))
          refine stp ?_; try with_reducible exact True.intro
          rfl
end Go.Proofs.YtaoepnmhflmhhaaTv
end
section
open Go Go.Proofs.YtaoepnmhflmhhaaVe Go.Proofs.YtaoepnmhflmhhaaTv Go.Proofs
namespace Go.Proofs.YtaoepnmhflmhhaaTv
set_option maxRecDepth 8000
set_option maxHeartbeats 2000000
theorem isS_iff {x : Sf} : isS x = true ↔ (0 ≤ x.1 ∧ x.1 ≤ 20) ∧ (0 ≤ x.2.1 ∧ x.2.1 ≤ 20) ∧ (0 ≤ x.2.2 ∧ x.2.2 ≤ 20) ∧ (x.1 = 0 ∨ x.2.1 = 0) := by
  unfold isS
  simp only [Bool.and_eq_true, Bool.or_eq_true, decide_eq_true_eq, and_assoc]
def eul (x : Sf) : Int := if isS x = true then 2 - 2 * x.1 - x.2.1 - x.2.2 else -100
theorem EulerI (x : Sf) : ConS Try.prog 73 [sfV x] (.i (eul x)) := by
  have w := IsSurfaceI x
  have hb := @isS_iff x
  obtain ⟨h, c, b⟩ := x
  refine conS_of hmix hTab Try.func73 rfl rfl (by kernel_rfl) (by show 1 ≤ Try.f73.ntmps; decide) rfl ?_
  unfold eul
  dsimp only [sfV] at w hb ⊢
  generalize isS (h, c, b) = p at *
  refine stp ?_; try with_reducible exact True.intro
  refine useT w.toT ?_ ⟨⟨rfl, rfl, rfl, trivial⟩, trivial⟩
  cases p
  · refine stp ?_; try with_reducible exact True.intro
    rfl
  · have hb := hb.1 rfl
    refine stp ?_; try with_reducible exact True.intro
    rfl
theorem EulerS (x : Sf) : ConS Try.prog 45 [sfV x] (.i (eul x)) := by
  have w := IsSurfaceS x
  have hb := @isS_iff x
  obtain ⟨h, c, b⟩ := x
  refine conS_of hmix hTab Try.func45 rfl rfl (by kernel_rfl) (by show 1 ≤ Try.f45.ntmps; decide) rfl ?_
  unfold eul
  dsimp only [sfV] at w hb ⊢
  generalize isS (h, c, b) = p at *
  refine stp ?_; try with_reducible exact True.intro
  refine useT w.toT ?_ ⟨⟨rfl, rfl, rfl, trivial⟩, trivial⟩
  cases p
  · refine stp ?_; try with_reducible exact True.intro
    rfl
  · have hb := hb.1 rfl
    refine stp ?_; try with_reducible exact True.intro
    rfl
theorem told (x : Sf) : ConS Try.prog 66 [sfV x] (.tup [sfV (if isS x = true then x else (0, 0, 0)), .b (isS x)]) := by
  have w := IsSurfaceI x
  obtain ⟨h, c, b⟩ := x
  refine conS_of hmix hTab Try.func66 rfl rfl (by kernel_rfl) (by show 1 ≤ Try.f66.ntmps; decide) rfl ?_
  dsimp only [sfV] at w ⊢
  generalize isS (h, c, b) = p at *
  refine stp ?_; try with_reducible exact True.intro
  refine useT w.toT ?_ ⟨⟨rfl, rfl, rfl, trivial⟩, trivial⟩
  cases p
  · refine stp ?_; try with_reducible exact True.intro
    rfl
  · refine stp ?_; try with_reducible exact True.intro
    rfl
theorem l4Right (x : Sf) : ConS Try.prog 68 [sfV x] (.tup [sfV (if isS x = true then x else (0, 0, 0)), .b (isS x)]) := by
  have w := IsSurfaceS x
  obtain ⟨h, c, b⟩ := x
  refine conS_of hmix hTab Try.func68 rfl rfl (by kernel_rfl) (by show 1 ≤ Try.f68.ntmps; decide) rfl ?_
  dsimp only [sfV] at w ⊢
  generalize isS (h, c, b) = p at *
  refine stp ?_; try with_reducible exact True.intro
  refine useT w.toT ?_ ⟨⟨rfl, rfl, rfl, trivial⟩, trivial⟩
  cases p
  · refine stp ?_; try with_reducible exact True.intro
    rfl
  · refine stp ?_; try with_reducible exact True.intro
    rfl
/-- A closed-up surface. -/
def isP (x : Sf) : Bool := isS x && decide (x.2.1 = 0)
theorem isPlain (x : Sf) : ConS Try.prog 65 [sfV x] (.b (isP x)) := by
  have w := IsSurfaceI x
  obtain ⟨h, c, b⟩ := x
  refine conS_of hmix hTab Try.func65 rfl rfl (by kernel_rfl) (by show 1 ≤ Try.f65.ntmps; decide) rfl ?_
  unfold isP
  dsimp only [sfV] at w ⊢
  generalize isS (h, c, b) = p at *
  refine stp ?_; try with_reducible exact True.intro
  refine useT w.toT ?_ ⟨⟨rfl, rfl, rfl, trivial⟩, trivial⟩
  cases p
  · refine stp ?_; try with_reducible exact True.intro
    rfl
  · refine stp ?_; try with_reducible exact True.intro
    first | rfl | (simp; done)
theorem l21Fits (x : Sf) : ConS Try.prog 67 [sfV x] (.b (isP x)) := by
  have w := IsSurfaceS x
  obtain ⟨h, c, b⟩ := x
  refine conS_of hmix hTab Try.func67 rfl rfl (by kernel_rfl) (by show 1 ≤ Try.f67.ntmps; decide) rfl ?_
  unfold isP
  dsimp only [sfV] at w ⊢
  generalize isS (h, c, b) = p at *
  refine stp ?_; try with_reducible exact True.intro
  refine useT w.toT ?_ ⟨⟨rfl, rfl, rfl, trivial⟩, trivial⟩
  cases p
  · refine stp ?_; try with_reducible exact True.intro
    rfl
  · refine stp ?_; try with_reducible exact True.intro
    first | rfl | (simp; done)
def isFl (x : Sf) : Bool := decide (x.1 = 0) && decide (x.2.2 < 3)
theorem isFlat (x : Sf) : ConS Try.prog 70 [sfV x] (.b (isFl x)) := by
  obtain ⟨h, c, b⟩ := x
  refine conS_of hmix hTab Try.func70 rfl rfl (by kernel_rfl) (by show 1 ≤ Try.f70.ntmps; decide) rfl ?_
  unfold isFl
  dsimp only [sfV]
  repeat (first | (with_reducible refine wpKs ?_) | (with_reducible refine wpKb ?_) | (with_reducible refine wpKbn ?_) | (with_reducible refine wpKk ?_) | (refine wpKt rfl ?_) | (refine wpKf rfl ?_) | (with_reducible refine wpKr ?_) | ((with_reducible refine wpKd ?_ ?_); kernel_rfl) | (with_reducible refine wpKn ?_) | (with_reducible refine seqKn ?_) | (with_reducible refine drawKn ?_) | (first | refine seqKs rfl rfl rfl rfl ?_ | refine seqKu rfl rfl rfl rfl ?_ | refine drawKs rfl rfl rfl rfl ?_ | refine drawKu rfl rfl rfl rfl ?_) | ((first | refine seqK rfl rfl (fun K' hK => ?_) | refine seqKr rfl rfl rfl rfl (fun K' hK => ?_)); refine stp ?_; with_reducible refine hK _ _ ?_; clear hK K') | ((first | refine drawK rfl rfl (fun K' hK => ?_) | refine drawKr rfl rfl rfl rfl (fun K' hK => ?_)); refine stp ?_; with_reducible refine hK _ _ _ ?_; clear hK K') | (refine seqKz rfl rfl (fun K' hK => ?_); refine stp ?_; with_reducible refine hK _ ?_; clear hK K') | (refine drawKz rfl rfl (fun K' hK => ?_); refine stp ?_; with_reducible refine hK _ _ ?_; clear hK K'))
  generalize decide (h = 0) = q
  cases q
  · repeat (first | (with_reducible refine wpKs ?_) | (with_reducible refine wpKb ?_) | (with_reducible refine wpKbn ?_) | (with_reducible refine wpKk ?_) | (refine wpKt rfl ?_) | (refine wpKf rfl ?_) | (with_reducible refine wpKr ?_) | ((with_reducible refine wpKd ?_ ?_); kernel_rfl) | (with_reducible refine wpKn ?_) | (with_reducible refine seqKn ?_) | (with_reducible refine drawKn ?_) | (first | refine seqKs rfl rfl rfl rfl ?_ | refine seqKu rfl rfl rfl rfl ?_ | refine drawKs rfl rfl rfl rfl ?_ | refine drawKu rfl rfl rfl rfl ?_) | ((first | refine seqK rfl rfl (fun K' hK => ?_) | refine seqKr rfl rfl rfl rfl (fun K' hK => ?_)); refine stp ?_; with_reducible refine hK _ _ ?_; clear hK K') | ((first | refine drawK rfl rfl (fun K' hK => ?_) | refine drawKr rfl rfl rfl rfl (fun K' hK => ?_)); refine stp ?_; with_reducible refine hK _ _ _ ?_; clear hK K') | (refine seqKz rfl rfl (fun K' hK => ?_); refine stp ?_; with_reducible refine hK _ ?_; clear hK K') | (refine drawKz rfl rfl (fun K' hK => ?_); refine stp ?_; with_reducible refine hK _ _ ?_; clear hK K'))
    refine stp ?_; try with_reducible exact True.intro
    rfl
  · repeat (first | (with_reducible refine wpKs ?_) | (with_reducible refine wpKb ?_) | (with_reducible refine wpKbn ?_) | (with_reducible refine wpKk ?_) | (refine wpKt rfl ?_) | (refine wpKf rfl ?_) | (with_reducible refine wpKr ?_) | ((with_reducible refine wpKd ?_ ?_); kernel_rfl) | (with_reducible refine wpKn ?_) | (with_reducible refine seqKn ?_) | (with_reducible refine drawKn ?_) | (first | refine seqKs rfl rfl rfl rfl ?_ | refine seqKu rfl rfl rfl rfl ?_ | refine drawKs rfl rfl rfl rfl ?_ | refine drawKu rfl rfl rfl rfl ?_) | ((first | refine seqK rfl rfl (fun K' hK => ?_) | refine seqKr rfl rfl rfl rfl (fun K' hK => ?_)); refine stp ?_; with_reducible refine hK _ _ ?_; clear hK K') | ((first | refine drawK rfl rfl (fun K' hK => ?_) | refine drawKr rfl rfl rfl rfl (fun K' hK => ?_)); refine stp ?_; with_reducible refine hK _ _ _ ?_; clear hK K') | (refine seqKz rfl rfl (fun K' hK => ?_); refine stp ?_; with_reducible refine hK _ ?_; clear hK K') | (refine drawKz rfl rfl (fun K' hK => ?_); refine stp ?_; with_reducible refine hK _ _ ?_; clear hK K'))
    refine stp ?_; try with_reducible exact True.intro
    first | rfl | (simp; done)
theorem l21Small (x : Sf) : ConS Try.prog 71 [sfV x] (.b (isFl x)) := by
  obtain ⟨h, c, b⟩ := x
  refine conS_of hmix hTab Try.func71 rfl rfl (by kernel_rfl) (by show 1 ≤ Try.f71.ntmps; decide) rfl ?_
  unfold isFl
  dsimp only [sfV]
  repeat (first | (with_reducible refine wpKs ?_) | (with_reducible refine wpKb ?_) | (with_reducible refine wpKbn ?_) | (with_reducible refine wpKk ?_) | (refine wpKt rfl ?_) | (refine wpKf rfl ?_) | (with_reducible refine wpKr ?_) | ((with_reducible refine wpKd ?_ ?_); kernel_rfl) | (with_reducible refine wpKn ?_) | (with_reducible refine seqKn ?_) | (with_reducible refine drawKn ?_) | (first | refine seqKs rfl rfl rfl rfl ?_ | refine seqKu rfl rfl rfl rfl ?_ | refine drawKs rfl rfl rfl rfl ?_ | refine drawKu rfl rfl rfl rfl ?_) | ((first | refine seqK rfl rfl (fun K' hK => ?_) | refine seqKr rfl rfl rfl rfl (fun K' hK => ?_)); refine stp ?_; with_reducible refine hK _ _ ?_; clear hK K') | ((first | refine drawK rfl rfl (fun K' hK => ?_) | refine drawKr rfl rfl rfl rfl (fun K' hK => ?_)); refine stp ?_; with_reducible refine hK _ _ _ ?_; clear hK K') | (refine seqKz rfl rfl (fun K' hK => ?_); refine stp ?_; with_reducible refine hK _ ?_; clear hK K') | (refine drawKz rfl rfl (fun K' hK => ?_); refine stp ?_; with_reducible refine hK _ _ ?_; clear hK K'))
  generalize decide (h = 0) = q
  cases q
  · repeat (first | (with_reducible refine wpKs ?_) | (with_reducible refine wpKb ?_) | (with_reducible refine wpKbn ?_) | (with_reducible refine wpKk ?_) | (refine wpKt rfl ?_) | (refine wpKf rfl ?_) | (with_reducible refine wpKr ?_) | ((with_reducible refine wpKd ?_ ?_); kernel_rfl) | (with_reducible refine wpKn ?_) | (with_reducible refine seqKn ?_) | (with_reducible refine drawKn ?_) | (first | refine seqKs rfl rfl rfl rfl ?_ | refine seqKu rfl rfl rfl rfl ?_ | refine drawKs rfl rfl rfl rfl ?_ | refine drawKu rfl rfl rfl rfl ?_) | ((first | refine seqK rfl rfl (fun K' hK => ?_) | refine seqKr rfl rfl rfl rfl (fun K' hK => ?_)); refine stp ?_; with_reducible refine hK _ _ ?_; clear hK K') | ((first | refine drawK rfl rfl (fun K' hK => ?_) | refine drawKr rfl rfl rfl rfl (fun K' hK => ?_)); refine stp ?_; with_reducible refine hK _ _ _ ?_; clear hK K') | (refine seqKz rfl rfl (fun K' hK => ?_); refine stp ?_; with_reducible refine hK _ ?_; clear hK K') | (refine drawKz rfl rfl (fun K' hK => ?_); refine stp ?_; with_reducible refine hK _ _ ?_; clear hK K'))
    refine stp ?_; try with_reducible exact True.intro
    rfl
  · repeat (first | (with_reducible refine wpKs ?_) | (with_reducible refine wpKb ?_) | (with_reducible refine wpKbn ?_) | (with_reducible refine wpKk ?_) | (refine wpKt rfl ?_) | (refine wpKf rfl ?_) | (with_reducible refine wpKr ?_) | ((with_reducible refine wpKd ?_ ?_); kernel_rfl) | (with_reducible refine wpKn ?_) | (with_reducible refine seqKn ?_) | (with_reducible refine drawKn ?_) | (first | refine seqKs rfl rfl rfl rfl ?_ | refine seqKu rfl rfl rfl rfl ?_ | refine drawKs rfl rfl rfl rfl ?_ | refine drawKu rfl rfl rfl rfl ?_) | ((first | refine seqK rfl rfl (fun K' hK => ?_) | refine seqKr rfl rfl rfl rfl (fun K' hK => ?_)); refine stp ?_; with_reducible refine hK _ _ ?_; clear hK K') | ((first | refine drawK rfl rfl (fun K' hK => ?_) | refine drawKr rfl rfl rfl rfl (fun K' hK => ?_)); refine stp ?_; with_reducible refine hK _ _ _ ?_; clear hK K') | (refine seqKz rfl rfl (fun K' hK => ?_); refine stp ?_; with_reducible refine hK _ ?_; clear hK K') | (refine drawKz rfl rfl (fun K' hK => ?_); refine stp ?_; with_reducible refine hK _ _ ?_; clear hK K'))
    refine stp ?_; try with_reducible exact True.intro
    first | rfl | (simp; done)
end Go.Proofs.YtaoepnmhflmhhaaTv
end
section
open Go Go.Proofs.YtaoepnmhflmhhaaVe Go.Proofs.YtaoepnmhflmhhaaTv Go.Proofs
namespace Go.Proofs.YtaoepnmhflmhhaaTv
set_option maxRecDepth 8000
set_option maxHeartbeats 2000000
def tol (y : Sf) : Sf × Bool := (if isS y = true then y else (0, 0, 0), isS y)
def tolV (p : Sf × Bool) : V := .tup [sfV p.1, .b p.2]
theorem isP_rng {x : Sf} (h : isP x = true) : (0 ≤ x.1 ∧ x.1 ≤ 20) ∧ x.2.1 = 0 ∧ (0 ≤ x.2.2 ∧ x.2.2 ≤ 20) := by
  unfold isP at h
  simp only [Bool.and_eq_true, decide_eq_true_eq] at h
  have := isS_iff.1 h.1
  exact ⟨this.1, h.2, this.2.2.1⟩
def cutM (x : Sf) : Sf × Bool := if (isP x && !decide (x.1 = 0)) = true then tol (x.1 - 1, 0, x.2.2 + 2) else ((0, 0, 0), false)
def gluM (x : Sf) : Sf × Bool := if (isP x && !decide (x.2.2 < 2)) = true then tol (x.1 + 1, 0, x.2.2 - 2) else ((0, 0, 0), false)
def joiM (x y : Sf) : Sf × Bool := if (isP x && isP y && !decide (x.2.2 = 0) && !decide (y.2.2 = 0)) = true then tol (x.1 + y.1, 0, x.2.2 + y.2.2 - 2) else ((0, 0, 0), false)
theorem CutAroundI (x : Sf) : ConS Try.prog 28 [sfV x] (tolV (cutM x)) := by
  have w := isPlain x
  have hb := @isP_rng x
  have w2 := told (x.1 - 1, 0, x.2.2 + 2)
  unfold cutM tol tolV
  obtain ⟨h, c, b⟩ := x
  refine conS_of hmix hTab Try.func28 rfl rfl (by kernel_rfl) (by show 1 ≤ Try.f28.ntmps; decide) rfl ?_
  dsimp only [sfV] at w w2 hb ⊢
  generalize isP (h, c, b) = p at *
  refine stp ?_; try with_reducible exact True.intro
  refine useT w.toT ?_ ⟨⟨rfl, rfl, rfl, trivial⟩, trivial⟩
  cases p
  · refine stp ?_; try with_reducible exact True.intro
    rfl
  · have hb := hb rfl
    refine stp ?_; try with_reducible exact True.intro
    have e : decide (h = 0) = decide (h = 0) := rfl
    generalize decide (h = 0) = q at *
    cases q
    · refine stp ?_; try with_reducible exact True.intro
      refine useT w2.toT ?_ ⟨⟨rfl, rfl, rfl, trivial⟩, trivial⟩
      generalize isS _ = u at *
      cases u
      · refine stp ?_; try with_reducible exact True.intro
        rfl
      · refine stp ?_; try with_reducible exact True.intro
        rfl
    · refine stp ?_; try with_reducible exact True.intro
      rfl
theorem CutAroundS (x : Sf) : ConS Try.prog 29 [sfV x] (tolV (cutM x)) := by
  have w := l21Fits x
  have hb := @isP_rng x
  have w2 := l4Right (x.1 - 1, 0, x.2.2 + 2)
  unfold cutM tol tolV
  obtain ⟨h, c, b⟩ := x
  refine conS_of hmix hTab Try.func29 rfl rfl (by kernel_rfl) (by show 1 ≤ Try.f29.ntmps; decide) rfl ?_
  dsimp only [sfV] at w w2 hb ⊢
  generalize isP (h, c, b) = p at *
  refine stp ?_; try with_reducible exact True.intro
  refine useT w.toT ?_ ⟨⟨rfl, rfl, rfl, trivial⟩, trivial⟩
  cases p
  · refine stp ?_; try with_reducible exact True.intro
    rfl
  · have hb := hb rfl
    refine stp ?_; try with_reducible exact True.intro
    have e : decide (h = 0) = decide (h = 0) := rfl
    generalize decide (h = 0) = q at *
    cases q
    · refine stp ?_; try with_reducible exact True.intro
      refine useT w2.toT ?_ ⟨⟨rfl, rfl, rfl, trivial⟩, trivial⟩
      generalize isS _ = u at *
      cases u
      · refine stp ?_; try with_reducible exact True.intro
        rfl
      · refine stp ?_; try with_reducible exact True.intro
        rfl
    · refine stp ?_; try with_reducible exact True.intro
      rfl
theorem GlueBordersI (x : Sf) : ConS Try.prog 32 [sfV x] (tolV (gluM x)) := by
  have w := isPlain x
  have hb := @isP_rng x
  have w2 := told (x.1 + 1, 0, x.2.2 - 2)
  unfold gluM tol tolV
  obtain ⟨h, c, b⟩ := x
  refine conS_of hmix hTab Try.func32 rfl rfl (by kernel_rfl) (by show 1 ≤ Try.f32.ntmps; decide) rfl ?_
  dsimp only [sfV] at w w2 hb ⊢
  generalize isP (h, c, b) = p at *
  refine stp ?_; try with_reducible exact True.intro
  refine useT w.toT ?_ ⟨⟨rfl, rfl, rfl, trivial⟩, trivial⟩
  cases p
  · refine stp ?_; try with_reducible exact True.intro
    rfl
  · have hb := hb rfl
    refine stp ?_; try with_reducible exact True.intro
    have e : decide (b < 2) = decide (b < 2) := rfl
    generalize decide (b < 2) = q at *
    cases q
    · refine stp ?_; try with_reducible exact True.intro
      refine useT w2.toT ?_ ⟨⟨rfl, rfl, rfl, trivial⟩, trivial⟩
      generalize isS _ = u at *
      cases u
      · refine stp ?_; try with_reducible exact True.intro
        rfl
      · refine stp ?_; try with_reducible exact True.intro
        rfl
    · refine stp ?_; try with_reducible exact True.intro
      rfl
theorem GlueBordersS (x : Sf) : ConS Try.prog 33 [sfV x] (tolV (gluM x)) := by
  have w := l21Fits x
  have hb := @isP_rng x
  have w2 := l4Right (x.1 + 1, 0, x.2.2 - 2)
  unfold gluM tol tolV
  obtain ⟨h, c, b⟩ := x
  refine conS_of hmix hTab Try.func33 rfl rfl (by kernel_rfl) (by show 1 ≤ Try.f33.ntmps; decide) rfl ?_
  dsimp only [sfV] at w w2 hb ⊢
  generalize isP (h, c, b) = p at *
  refine stp ?_; try with_reducible exact True.intro
  refine useT w.toT ?_ ⟨⟨rfl, rfl, rfl, trivial⟩, trivial⟩
  cases p
  · refine stp ?_; try with_reducible exact True.intro
    rfl
  · have hb := hb rfl
    refine stp ?_; try with_reducible exact True.intro
    have e : decide (b < 2) = decide (b < 2) := rfl
    generalize decide (b < 2) = q at *
    cases q
    · refine stp ?_; try with_reducible exact True.intro
      refine useT w2.toT ?_ ⟨⟨rfl, rfl, rfl, trivial⟩, trivial⟩
      generalize isS _ = u at *
      cases u
      · refine stp ?_; try with_reducible exact True.intro
        rfl
      · refine stp ?_; try with_reducible exact True.intro
        rfl
    · refine stp ?_; try with_reducible exact True.intro
      rfl
end Go.Proofs.YtaoepnmhflmhhaaTv
end
section
open Go Go.Proofs.YtaoepnmhflmhhaaVe Go.Proofs.YtaoepnmhflmhhaaTv Go.Proofs
namespace Go.Proofs.YtaoepnmhflmhhaaTv
set_option maxRecDepth 8000
set_option maxHeartbeats 2000000
def mosM (x : Sf) : Int := if isP x = true then (if (decide (x.1 = 1) && decide (x.2.2 = 0)) = true then 1 else max 0 (3 * x.1 - 3 + x.2.2)) else -1
def pieM (x : Sf) : Int := if isP x = true then max 0 (2 * x.1 - 2 + x.2.2) else -1
theorem l1MaxB (a b : Int) : ConS Try.prog 75 [.i a, .i b] (.i (max a b)) := by
  refine conS_of hmix hTab Try.func75 rfl rfl (by kernel_rfl) (by show 2 ≤ Try.f75.ntmps; decide) rfl ?_
  refine stp ?_; try with_reducible exact True.intro
  refine Br.mk (fun h => ?_) (fun h => ?_) <;> simp [-Int.ofNat_toNat] at h
  · refine stp ?_; try with_reducible exact True.intro
    rw [Int.max_eq_left (by omega)]
  · refine stp ?_; try with_reducible exact True.intro
    rw [Int.max_eq_right (by omega)]
theorem maxI_eq (a : Int) : maxI a 0 = max 0 a := by
  unfold maxI
  rw [Int.max_def]; split <;> split <;> omega
theorem MostCurvesI (x : Sf) : ConS Try.prog 41 [sfV x] (.i (mosM x)) := by
  have w := isPlain x
  have hb := @isP_rng x
  unfold mosM
  obtain ⟨h, c, b⟩ := x
  refine conS_of hmix hTab Try.func41 rfl rfl (by kernel_rfl) (by show 1 ≤ Try.f41.ntmps; decide) rfl ?_
  dsimp only [sfV] at w hb ⊢
  generalize isP (h, c, b) = p at *
  refine stp ?_; try with_reducible exact True.intro
  refine useT w.toT ?_ ⟨⟨rfl, rfl, rfl, trivial⟩, trivial⟩
  cases p
  · refine stp ?_; try with_reducible exact True.intro
    rfl
  · have hb := hb rfl
    refine stp ?_; try with_reducible exact True.intro
    generalize hq : decide (h = 1) = q at *
    cases q
    · refine stp ?_; try with_reducible exact True.intro
      first | (simp [maxI_eq]; done) | rfl
    · refine stp ?_; try with_reducible exact True.intro
      generalize hr : decide (b = 0) = r at *
      cases r
      · refine stp ?_; try with_reducible exact True.intro
        first | (simp [maxI_eq]; done) | rfl
      · refine stp ?_; try with_reducible exact True.intro
        first | (simp [maxI_eq]; done) | rfl
theorem MostCurvesS (x : Sf) : ConS Try.prog 42 [sfV x] (.i (mosM x)) := by
  have w := l21Fits x
  have hb := @isP_rng x
  unfold mosM
  obtain ⟨h, c, b⟩ := x
  refine conS_of hmix hTab Try.func42 rfl rfl (by kernel_rfl) (by show 1 ≤ Try.f42.ntmps; decide) rfl ?_
  dsimp only [sfV] at w hb ⊢
  generalize isP (h, c, b) = p at *
  refine stp ?_; try with_reducible exact True.intro
  refine useT w.toT ?_ ⟨⟨rfl, rfl, rfl, trivial⟩, trivial⟩
  cases p
  · refine stp ?_; try with_reducible exact True.intro
    rfl
  · have hb := hb rfl
    refine stp ?_; try with_reducible exact True.intro
    generalize hq : decide (h = 1) = q at *
    cases q
    · refine stp ?_; try with_reducible exact True.intro
      refine useT (l1MaxB 0 (3 * h - 3 + b)).toT ?_; first | rfl | (simp; done)
    · refine stp ?_; try with_reducible exact True.intro
      generalize hr : decide (b = 0) = r at *
      cases r
      · refine stp ?_; try with_reducible exact True.intro
        refine useT (l1MaxB 0 (3 * h - 3 + b)).toT ?_; first | rfl | (simp; done)
      · refine stp ?_; try with_reducible exact True.intro
        rfl
theorem CountPiecesI (x : Sf) : ConS Try.prog 43 [sfV x] (.i (pieM x)) := by
  have w := isPlain x
  have hb := @isP_rng x
  unfold pieM
  obtain ⟨h, c, b⟩ := x
  refine conS_of hmix hTab Try.func43 rfl rfl (by kernel_rfl) (by show 1 ≤ Try.f43.ntmps; decide) rfl ?_
  dsimp only [sfV] at w hb ⊢
  generalize isP (h, c, b) = p at *
  refine stp ?_; try with_reducible exact True.intro
  refine useT w.toT ?_ ⟨⟨rfl, rfl, rfl, trivial⟩, trivial⟩
  cases p
  · refine stp ?_; try with_reducible exact True.intro
    rfl
  · have hb := hb rfl
    refine stp ?_; try with_reducible exact True.intro
    generalize hq : decide (h = 1) = q at *
    cases q
    · refine stp ?_; try with_reducible exact True.intro
      (try simp only [decide_eq_true_eq] at hq hr); (try subst hq); (try subst hr); first | (simp [maxI_eq]; done) | rfl
    · refine stp ?_; try with_reducible exact True.intro
      generalize hr : decide (b = 0) = r at *
      cases r
      · refine stp ?_; try with_reducible exact True.intro
        (try simp only [decide_eq_true_eq] at hq hr); (try subst hq); (try subst hr); first | (simp [maxI_eq]; done) | rfl
      · refine stp ?_; try with_reducible exact True.intro
        (try simp only [decide_eq_true_eq] at hq hr); (try subst hq); (try subst hr); first | (simp [maxI_eq]; done) | rfl
theorem CountPiecesS (x : Sf) : ConS Try.prog 44 [sfV x] (.i (pieM x)) := by
  have w := l21Fits x
  have hb := @isP_rng x
  unfold pieM
  obtain ⟨h, c, b⟩ := x
  refine conS_of hmix hTab Try.func44 rfl rfl (by kernel_rfl) (by show 1 ≤ Try.f44.ntmps; decide) rfl ?_
  dsimp only [sfV] at w hb ⊢
  generalize isP (h, c, b) = p at *
  refine stp ?_; try with_reducible exact True.intro
  refine useT w.toT ?_ ⟨⟨rfl, rfl, rfl, trivial⟩, trivial⟩
  cases p
  · refine stp ?_; try with_reducible exact True.intro
    rfl
  · have hb := hb rfl
    refine stp ?_; try with_reducible exact True.intro
    refine useT ((l1MaxB 0 (2 * h - 2 + b)).toT) ?_; try with_reducible exact True.intro
    refine stp ?_; try with_reducible exact True.intro
    rfl
end Go.Proofs.YtaoepnmhflmhhaaTv
end
section
open Go Go.Proofs.YtaoepnmhflmhhaaVe Go.Proofs.YtaoepnmhflmhhaaTv Go.Proofs
namespace Go.Proofs.YtaoepnmhflmhhaaTv
set_option maxRecDepth 8000
set_option maxHeartbeats 2000000
theorem JoinBordersI (x y : Sf) : ConS Try.prog 35 [sfV x, sfV y] (tolV (joiM x y)) := by
  have w := isPlain x
  have wy := isPlain y
  have hb := @isP_rng x
  have hy := @isP_rng y
  have w2 := told (x.1 + y.1, 0, x.2.2 + y.2.2 - 2)
  unfold joiM tol tolV
  obtain ⟨h, c, b⟩ := x
  obtain ⟨h2, c2, b2⟩ := y
  refine conS_of hmix hTab Try.func35 rfl rfl (by kernel_rfl) (by show 2 ≤ Try.f35.ntmps; decide) rfl ?_
  dsimp only [sfV] at w wy w2 hb hy ⊢
  generalize isP (h, c, b) = p at *
  generalize isP (h2, c2, b2) = p2 at *
  repeat (first | (with_reducible refine wpKs ?_) | (with_reducible refine wpKb ?_) | (with_reducible refine wpKbn ?_) | (with_reducible refine wpKk ?_) | (refine wpKt rfl ?_) | (refine wpKf rfl ?_) | (with_reducible refine wpKr ?_) | ((with_reducible refine wpKd ?_ ?_); kernel_rfl) | (with_reducible refine wpKn ?_) | (with_reducible refine seqKn ?_) | (with_reducible refine drawKn ?_) | (first | refine seqKs rfl rfl rfl rfl ?_ | refine seqKu rfl rfl rfl rfl ?_ | refine drawKs rfl rfl rfl rfl ?_ | refine drawKu rfl rfl rfl rfl ?_) | ((first | refine seqK rfl rfl (fun K' hK => ?_) | refine seqKr rfl rfl rfl rfl (fun K' hK => ?_)); refine stp ?_; with_reducible refine hK _ _ ?_; clear hK K') | ((first | refine drawK rfl rfl (fun K' hK => ?_) | refine drawKr rfl rfl rfl rfl (fun K' hK => ?_)); refine stp ?_; with_reducible refine hK _ _ _ ?_; clear hK K') | (refine seqKz rfl rfl (fun K' hK => ?_); refine stp ?_; with_reducible refine hK _ ?_; clear hK K') | (refine drawKz rfl rfl (fun K' hK => ?_); refine stp ?_; with_reducible refine hK _ _ ?_; clear hK K'))
  (first | refine seqK rfl rfl (fun K' hK => ?_) | refine seqKr rfl rfl rfl rfl (fun K' hK => ?_)); (conv => whnf); refine useT (w.toT) ?_ ⟨⟨rfl, rfl, rfl, trivial⟩, trivial⟩; with_reducible refine hK _ _ ?_; clear hK K'; repeat (first | (with_reducible refine wpKs ?_) | (with_reducible refine wpKb ?_) | (with_reducible refine wpKbn ?_) | (with_reducible refine wpKk ?_) | (refine wpKt rfl ?_) | (refine wpKf rfl ?_) | (with_reducible refine wpKr ?_) | ((with_reducible refine wpKd ?_ ?_); kernel_rfl) | (with_reducible refine wpKn ?_) | (with_reducible refine seqKn ?_) | (with_reducible refine drawKn ?_) | (first | refine seqKs rfl rfl rfl rfl ?_ | refine seqKu rfl rfl rfl rfl ?_ | refine drawKs rfl rfl rfl rfl ?_ | refine drawKu rfl rfl rfl rfl ?_) | ((first | refine seqK rfl rfl (fun K' hK => ?_) | refine seqKr rfl rfl rfl rfl (fun K' hK => ?_)); refine stp ?_; with_reducible refine hK _ _ ?_; clear hK K') | ((first | refine drawK rfl rfl (fun K' hK => ?_) | refine drawKr rfl rfl rfl rfl (fun K' hK => ?_)); refine stp ?_; with_reducible refine hK _ _ _ ?_; clear hK K') | (refine seqKz rfl rfl (fun K' hK => ?_); refine stp ?_; with_reducible refine hK _ ?_; clear hK K') | (refine drawKz rfl rfl (fun K' hK => ?_); refine stp ?_; with_reducible refine hK _ _ ?_; clear hK K'))
  cases p
  · repeat (first | (with_reducible refine wpKs ?_) | (with_reducible refine wpKb ?_) | (with_reducible refine wpKbn ?_) | (with_reducible refine wpKk ?_) | (refine wpKt rfl ?_) | (refine wpKf rfl ?_) | (with_reducible refine wpKr ?_) | ((with_reducible refine wpKd ?_ ?_); kernel_rfl) | (with_reducible refine wpKn ?_) | (with_reducible refine seqKn ?_) | (with_reducible refine drawKn ?_) | (first | refine seqKs rfl rfl rfl rfl ?_ | refine seqKu rfl rfl rfl rfl ?_ | refine drawKs rfl rfl rfl rfl ?_ | refine drawKu rfl rfl rfl rfl ?_) | ((first | refine seqK rfl rfl (fun K' hK => ?_) | refine seqKr rfl rfl rfl rfl (fun K' hK => ?_)); refine stp ?_; with_reducible refine hK _ _ ?_; clear hK K') | ((first | refine drawK rfl rfl (fun K' hK => ?_) | refine drawKr rfl rfl rfl rfl (fun K' hK => ?_)); refine stp ?_; with_reducible refine hK _ _ _ ?_; clear hK K') | (refine seqKz rfl rfl (fun K' hK => ?_); refine stp ?_; with_reducible refine hK _ ?_; clear hK K') | (refine drawKz rfl rfl (fun K' hK => ?_); refine stp ?_; with_reducible refine hK _ _ ?_; clear hK K'))
    refine stp ?_; try with_reducible exact True.intro
    rfl
  · have hb := hb rfl
    repeat (first | (with_reducible refine wpKs ?_) | (with_reducible refine wpKb ?_) | (with_reducible refine wpKbn ?_) | (with_reducible refine wpKk ?_) | (refine wpKt rfl ?_) | (refine wpKf rfl ?_) | (with_reducible refine wpKr ?_) | ((with_reducible refine wpKd ?_ ?_); kernel_rfl) | (with_reducible refine wpKn ?_) | (with_reducible refine seqKn ?_) | (with_reducible refine drawKn ?_) | (first | refine seqKs rfl rfl rfl rfl ?_ | refine seqKu rfl rfl rfl rfl ?_ | refine drawKs rfl rfl rfl rfl ?_ | refine drawKu rfl rfl rfl rfl ?_) | ((first | refine seqK rfl rfl (fun K' hK => ?_) | refine seqKr rfl rfl rfl rfl (fun K' hK => ?_)); refine stp ?_; with_reducible refine hK _ _ ?_; clear hK K') | ((first | refine drawK rfl rfl (fun K' hK => ?_) | refine drawKr rfl rfl rfl rfl (fun K' hK => ?_)); refine stp ?_; with_reducible refine hK _ _ _ ?_; clear hK K') | (refine seqKz rfl rfl (fun K' hK => ?_); refine stp ?_; with_reducible refine hK _ ?_; clear hK K') | (refine drawKz rfl rfl (fun K' hK => ?_); refine stp ?_; with_reducible refine hK _ _ ?_; clear hK K'))
    (first | refine seqK rfl rfl (fun K' hK => ?_) | refine seqKr rfl rfl rfl rfl (fun K' hK => ?_)); (conv => whnf); refine useT (wy.toT) ?_ ⟨⟨rfl, rfl, rfl, trivial⟩, trivial⟩; with_reducible refine hK _ _ ?_; clear hK K'; repeat (first | (with_reducible refine wpKs ?_) | (with_reducible refine wpKb ?_) | (with_reducible refine wpKbn ?_) | (with_reducible refine wpKk ?_) | (refine wpKt rfl ?_) | (refine wpKf rfl ?_) | (with_reducible refine wpKr ?_) | ((with_reducible refine wpKd ?_ ?_); kernel_rfl) | (with_reducible refine wpKn ?_) | (with_reducible refine seqKn ?_) | (with_reducible refine drawKn ?_) | (first | refine seqKs rfl rfl rfl rfl ?_ | refine seqKu rfl rfl rfl rfl ?_ | refine drawKs rfl rfl rfl rfl ?_ | refine drawKu rfl rfl rfl rfl ?_) | ((first | refine seqK rfl rfl (fun K' hK => ?_) | refine seqKr rfl rfl rfl rfl (fun K' hK => ?_)); refine stp ?_; with_reducible refine hK _ _ ?_; clear hK K') | ((first | refine drawK rfl rfl (fun K' hK => ?_) | refine drawKr rfl rfl rfl rfl (fun K' hK => ?_)); refine stp ?_; with_reducible refine hK _ _ _ ?_; clear hK K') | (refine seqKz rfl rfl (fun K' hK => ?_); refine stp ?_; with_reducible refine hK _ ?_; clear hK K') | (refine drawKz rfl rfl (fun K' hK => ?_); refine stp ?_; with_reducible refine hK _ _ ?_; clear hK K'))
    cases p2
    · repeat (first | (with_reducible refine wpKs ?_) | (with_reducible refine wpKb ?_) | (with_reducible refine wpKbn ?_) | (with_reducible refine wpKk ?_) | (refine wpKt rfl ?_) | (refine wpKf rfl ?_) | (with_reducible refine wpKr ?_) | ((with_reducible refine wpKd ?_ ?_); kernel_rfl) | (with_reducible refine wpKn ?_) | (with_reducible refine seqKn ?_) | (with_reducible refine drawKn ?_) | (first | refine seqKs rfl rfl rfl rfl ?_ | refine seqKu rfl rfl rfl rfl ?_ | refine drawKs rfl rfl rfl rfl ?_ | refine drawKu rfl rfl rfl rfl ?_) | ((first | refine seqK rfl rfl (fun K' hK => ?_) | refine seqKr rfl rfl rfl rfl (fun K' hK => ?_)); refine stp ?_; with_reducible refine hK _ _ ?_; clear hK K') | ((first | refine drawK rfl rfl (fun K' hK => ?_) | refine drawKr rfl rfl rfl rfl (fun K' hK => ?_)); refine stp ?_; with_reducible refine hK _ _ _ ?_; clear hK K') | (refine seqKz rfl rfl (fun K' hK => ?_); refine stp ?_; with_reducible refine hK _ ?_; clear hK K') | (refine drawKz rfl rfl (fun K' hK => ?_); refine stp ?_; with_reducible refine hK _ _ ?_; clear hK K'))
      refine stp ?_; try with_reducible exact True.intro
      rfl
    · have hy := hy rfl
      repeat (first | (with_reducible refine wpKs ?_) | (with_reducible refine wpKb ?_) | (with_reducible refine wpKbn ?_) | (with_reducible refine wpKk ?_) | (refine wpKt rfl ?_) | (refine wpKf rfl ?_) | (with_reducible refine wpKr ?_) | ((with_reducible refine wpKd ?_ ?_); kernel_rfl) | (with_reducible refine wpKn ?_) | (with_reducible refine seqKn ?_) | (with_reducible refine drawKn ?_) | (first | refine seqKs rfl rfl rfl rfl ?_ | refine seqKu rfl rfl rfl rfl ?_ | refine drawKs rfl rfl rfl rfl ?_ | refine drawKu rfl rfl rfl rfl ?_) | ((first | refine seqK rfl rfl (fun K' hK => ?_) | refine seqKr rfl rfl rfl rfl (fun K' hK => ?_)); refine stp ?_; with_reducible refine hK _ _ ?_; clear hK K') | ((first | refine drawK rfl rfl (fun K' hK => ?_) | refine drawKr rfl rfl rfl rfl (fun K' hK => ?_)); refine stp ?_; with_reducible refine hK _ _ _ ?_; clear hK K') | (refine seqKz rfl rfl (fun K' hK => ?_); refine stp ?_; with_reducible refine hK _ ?_; clear hK K') | (refine drawKz rfl rfl (fun K' hK => ?_); refine stp ?_; with_reducible refine hK _ _ ?_; clear hK K'))
      generalize decide (b = 0) = q at *
      cases q
      · repeat (first | (with_reducible refine wpKs ?_) | (with_reducible refine wpKb ?_) | (with_reducible refine wpKbn ?_) | (with_reducible refine wpKk ?_) | (refine wpKt rfl ?_) | (refine wpKf rfl ?_) | (with_reducible refine wpKr ?_) | ((with_reducible refine wpKd ?_ ?_); kernel_rfl) | (with_reducible refine wpKn ?_) | (with_reducible refine seqKn ?_) | (with_reducible refine drawKn ?_) | (first | refine seqKs rfl rfl rfl rfl ?_ | refine seqKu rfl rfl rfl rfl ?_ | refine drawKs rfl rfl rfl rfl ?_ | refine drawKu rfl rfl rfl rfl ?_) | ((first | refine seqK rfl rfl (fun K' hK => ?_) | refine seqKr rfl rfl rfl rfl (fun K' hK => ?_)); refine stp ?_; with_reducible refine hK _ _ ?_; clear hK K') | ((first | refine drawK rfl rfl (fun K' hK => ?_) | refine drawKr rfl rfl rfl rfl (fun K' hK => ?_)); refine stp ?_; with_reducible refine hK _ _ _ ?_; clear hK K') | (refine seqKz rfl rfl (fun K' hK => ?_); refine stp ?_; with_reducible refine hK _ ?_; clear hK K') | (refine drawKz rfl rfl (fun K' hK => ?_); refine stp ?_; with_reducible refine hK _ _ ?_; clear hK K'))
        generalize decide (b2 = 0) = q2 at *
        cases q2
        · repeat (first | (with_reducible refine wpKs ?_) | (with_reducible refine wpKb ?_) | (with_reducible refine wpKbn ?_) | (with_reducible refine wpKk ?_) | (refine wpKt rfl ?_) | (refine wpKf rfl ?_) | (with_reducible refine wpKr ?_) | ((with_reducible refine wpKd ?_ ?_); kernel_rfl) | (with_reducible refine wpKn ?_) | (with_reducible refine seqKn ?_) | (with_reducible refine drawKn ?_) | (first | refine seqKs rfl rfl rfl rfl ?_ | refine seqKu rfl rfl rfl rfl ?_ | refine drawKs rfl rfl rfl rfl ?_ | refine drawKu rfl rfl rfl rfl ?_) | ((first | refine seqK rfl rfl (fun K' hK => ?_) | refine seqKr rfl rfl rfl rfl (fun K' hK => ?_)); refine stp ?_; with_reducible refine hK _ _ ?_; clear hK K') | ((first | refine drawK rfl rfl (fun K' hK => ?_) | refine drawKr rfl rfl rfl rfl (fun K' hK => ?_)); refine stp ?_; with_reducible refine hK _ _ _ ?_; clear hK K') | (refine seqKz rfl rfl (fun K' hK => ?_); refine stp ?_; with_reducible refine hK _ ?_; clear hK K') | (refine drawKz rfl rfl (fun K' hK => ?_); refine stp ?_; with_reducible refine hK _ _ ?_; clear hK K'))
          (first | refine seqK rfl rfl (fun K' hK => ?_) | refine seqKr rfl rfl rfl rfl (fun K' hK => ?_)); (conv => whnf); refine useT (w2.toT) ?_ ⟨⟨rfl, rfl, rfl, trivial⟩, trivial⟩; with_reducible refine hK _ _ ?_; clear hK K'; repeat (first | (with_reducible refine wpKs ?_) | (with_reducible refine wpKb ?_) | (with_reducible refine wpKbn ?_) | (with_reducible refine wpKk ?_) | (refine wpKt rfl ?_) | (refine wpKf rfl ?_) | (with_reducible refine wpKr ?_) | ((with_reducible refine wpKd ?_ ?_); kernel_rfl) | (with_reducible refine wpKn ?_) | (with_reducible refine seqKn ?_) | (with_reducible refine drawKn ?_) | (first | refine seqKs rfl rfl rfl rfl ?_ | refine seqKu rfl rfl rfl rfl ?_ | refine drawKs rfl rfl rfl rfl ?_ | refine drawKu rfl rfl rfl rfl ?_) | ((first | refine seqK rfl rfl (fun K' hK => ?_) | refine seqKr rfl rfl rfl rfl (fun K' hK => ?_)); refine stp ?_; with_reducible refine hK _ _ ?_; clear hK K') | ((first | refine drawK rfl rfl (fun K' hK => ?_) | refine drawKr rfl rfl rfl rfl (fun K' hK => ?_)); refine stp ?_; with_reducible refine hK _ _ _ ?_; clear hK K') | (refine seqKz rfl rfl (fun K' hK => ?_); refine stp ?_; with_reducible refine hK _ ?_; clear hK K') | (refine drawKz rfl rfl (fun K' hK => ?_); refine stp ?_; with_reducible refine hK _ _ ?_; clear hK K'))
          generalize isS _ = u at *
          cases u
          · refine stp ?_; try with_reducible exact True.intro
            rfl
          · refine stp ?_; try with_reducible exact True.intro
            rfl
        · repeat (first | (with_reducible refine wpKs ?_) | (with_reducible refine wpKb ?_) | (with_reducible refine wpKbn ?_) | (with_reducible refine wpKk ?_) | (refine wpKt rfl ?_) | (refine wpKf rfl ?_) | (with_reducible refine wpKr ?_) | ((with_reducible refine wpKd ?_ ?_); kernel_rfl) | (with_reducible refine wpKn ?_) | (with_reducible refine seqKn ?_) | (with_reducible refine drawKn ?_) | (first | refine seqKs rfl rfl rfl rfl ?_ | refine seqKu rfl rfl rfl rfl ?_ | refine drawKs rfl rfl rfl rfl ?_ | refine drawKu rfl rfl rfl rfl ?_) | ((first | refine seqK rfl rfl (fun K' hK => ?_) | refine seqKr rfl rfl rfl rfl (fun K' hK => ?_)); refine stp ?_; with_reducible refine hK _ _ ?_; clear hK K') | ((first | refine drawK rfl rfl (fun K' hK => ?_) | refine drawKr rfl rfl rfl rfl (fun K' hK => ?_)); refine stp ?_; with_reducible refine hK _ _ _ ?_; clear hK K') | (refine seqKz rfl rfl (fun K' hK => ?_); refine stp ?_; with_reducible refine hK _ ?_; clear hK K') | (refine drawKz rfl rfl (fun K' hK => ?_); refine stp ?_; with_reducible refine hK _ _ ?_; clear hK K'))
          refine stp ?_; try with_reducible exact True.intro
          rfl
      · repeat (first | (with_reducible refine wpKs ?_) | (with_reducible refine wpKb ?_) | (with_reducible refine wpKbn ?_) | (with_reducible refine wpKk ?_) | (refine wpKt rfl ?_) | (refine wpKf rfl ?_) | (with_reducible refine wpKr ?_) | ((with_reducible refine wpKd ?_ ?_); kernel_rfl) | (with_reducible refine wpKn ?_) | (with_reducible refine seqKn ?_) | (with_reducible refine drawKn ?_) | (first | refine seqKs rfl rfl rfl rfl ?_ | refine seqKu rfl rfl rfl rfl ?_ | refine drawKs rfl rfl rfl rfl ?_ | refine drawKu rfl rfl rfl rfl ?_) | ((first | refine seqK rfl rfl (fun K' hK => ?_) | refine seqKr rfl rfl rfl rfl (fun K' hK => ?_)); refine stp ?_; with_reducible refine hK _ _ ?_; clear hK K') | ((first | refine drawK rfl rfl (fun K' hK => ?_) | refine drawKr rfl rfl rfl rfl (fun K' hK => ?_)); refine stp ?_; with_reducible refine hK _ _ _ ?_; clear hK K') | (refine seqKz rfl rfl (fun K' hK => ?_); refine stp ?_; with_reducible refine hK _ ?_; clear hK K') | (refine drawKz rfl rfl (fun K' hK => ?_); refine stp ?_; with_reducible refine hK _ _ ?_; clear hK K'))
        refine stp ?_; try with_reducible exact True.intro
        rfl
theorem JoinBordersS (x y : Sf) : ConS Try.prog 36 [sfV x, sfV y] (tolV (joiM x y)) := by
  have w := l21Fits x
  have wy := l21Fits y
  have hb := @isP_rng x
  have hy := @isP_rng y
  have w2 := l4Right (x.1 + y.1, 0, x.2.2 + y.2.2 - 2)
  unfold joiM tol tolV
  obtain ⟨h, c, b⟩ := x
  obtain ⟨h2, c2, b2⟩ := y
  refine conS_of hmix hTab Try.func36 rfl rfl (by kernel_rfl) (by show 2 ≤ Try.f36.ntmps; decide) rfl ?_
  dsimp only [sfV] at w wy w2 hb hy ⊢
  generalize isP (h, c, b) = p at *
  generalize isP (h2, c2, b2) = p2 at *
  repeat (first | (with_reducible refine wpKs ?_) | (with_reducible refine wpKb ?_) | (with_reducible refine wpKbn ?_) | (with_reducible refine wpKk ?_) | (refine wpKt rfl ?_) | (refine wpKf rfl ?_) | (with_reducible refine wpKr ?_) | ((with_reducible refine wpKd ?_ ?_); kernel_rfl) | (with_reducible refine wpKn ?_) | (with_reducible refine seqKn ?_) | (with_reducible refine drawKn ?_) | (first | refine seqKs rfl rfl rfl rfl ?_ | refine seqKu rfl rfl rfl rfl ?_ | refine drawKs rfl rfl rfl rfl ?_ | refine drawKu rfl rfl rfl rfl ?_) | ((first | refine seqK rfl rfl (fun K' hK => ?_) | refine seqKr rfl rfl rfl rfl (fun K' hK => ?_)); refine stp ?_; with_reducible refine hK _ _ ?_; clear hK K') | ((first | refine drawK rfl rfl (fun K' hK => ?_) | refine drawKr rfl rfl rfl rfl (fun K' hK => ?_)); refine stp ?_; with_reducible refine hK _ _ _ ?_; clear hK K') | (refine seqKz rfl rfl (fun K' hK => ?_); refine stp ?_; with_reducible refine hK _ ?_; clear hK K') | (refine drawKz rfl rfl (fun K' hK => ?_); refine stp ?_; with_reducible refine hK _ _ ?_; clear hK K'))
  (first | refine seqK rfl rfl (fun K' hK => ?_) | refine seqKr rfl rfl rfl rfl (fun K' hK => ?_)); (conv => whnf); refine useT (w.toT) ?_ ⟨⟨rfl, rfl, rfl, trivial⟩, trivial⟩; with_reducible refine hK _ _ ?_; clear hK K'; repeat (first | (with_reducible refine wpKs ?_) | (with_reducible refine wpKb ?_) | (with_reducible refine wpKbn ?_) | (with_reducible refine wpKk ?_) | (refine wpKt rfl ?_) | (refine wpKf rfl ?_) | (with_reducible refine wpKr ?_) | ((with_reducible refine wpKd ?_ ?_); kernel_rfl) | (with_reducible refine wpKn ?_) | (with_reducible refine seqKn ?_) | (with_reducible refine drawKn ?_) | (first | refine seqKs rfl rfl rfl rfl ?_ | refine seqKu rfl rfl rfl rfl ?_ | refine drawKs rfl rfl rfl rfl ?_ | refine drawKu rfl rfl rfl rfl ?_) | ((first | refine seqK rfl rfl (fun K' hK => ?_) | refine seqKr rfl rfl rfl rfl (fun K' hK => ?_)); refine stp ?_; with_reducible refine hK _ _ ?_; clear hK K') | ((first | refine drawK rfl rfl (fun K' hK => ?_) | refine drawKr rfl rfl rfl rfl (fun K' hK => ?_)); refine stp ?_; with_reducible refine hK _ _ _ ?_; clear hK K') | (refine seqKz rfl rfl (fun K' hK => ?_); refine stp ?_; with_reducible refine hK _ ?_; clear hK K') | (refine drawKz rfl rfl (fun K' hK => ?_); refine stp ?_; with_reducible refine hK _ _ ?_; clear hK K'))
  cases p
  · repeat (first | (with_reducible refine wpKs ?_) | (with_reducible refine wpKb ?_) | (with_reducible refine wpKbn ?_) | (with_reducible refine wpKk ?_) | (refine wpKt rfl ?_) | (refine wpKf rfl ?_) | (with_reducible refine wpKr ?_) | ((with_reducible refine wpKd ?_ ?_); kernel_rfl) | (with_reducible refine wpKn ?_) | (with_reducible refine seqKn ?_) | (with_reducible refine drawKn ?_) | (first | refine seqKs rfl rfl rfl rfl ?_ | refine seqKu rfl rfl rfl rfl ?_ | refine drawKs rfl rfl rfl rfl ?_ | refine drawKu rfl rfl rfl rfl ?_) | ((first | refine seqK rfl rfl (fun K' hK => ?_) | refine seqKr rfl rfl rfl rfl (fun K' hK => ?_)); refine stp ?_; with_reducible refine hK _ _ ?_; clear hK K') | ((first | refine drawK rfl rfl (fun K' hK => ?_) | refine drawKr rfl rfl rfl rfl (fun K' hK => ?_)); refine stp ?_; with_reducible refine hK _ _ _ ?_; clear hK K') | (refine seqKz rfl rfl (fun K' hK => ?_); refine stp ?_; with_reducible refine hK _ ?_; clear hK K') | (refine drawKz rfl rfl (fun K' hK => ?_); refine stp ?_; with_reducible refine hK _ _ ?_; clear hK K'))
    refine stp ?_; try with_reducible exact True.intro
    rfl
  · have hb := hb rfl
    repeat (first | (with_reducible refine wpKs ?_) | (with_reducible refine wpKb ?_) | (with_reducible refine wpKbn ?_) | (with_reducible refine wpKk ?_) | (refine wpKt rfl ?_) | (refine wpKf rfl ?_) | (with_reducible refine wpKr ?_) | ((with_reducible refine wpKd ?_ ?_); kernel_rfl) | (with_reducible refine wpKn ?_) | (with_reducible refine seqKn ?_) | (with_reducible refine drawKn ?_) | (first | refine seqKs rfl rfl rfl rfl ?_ | refine seqKu rfl rfl rfl rfl ?_ | refine drawKs rfl rfl rfl rfl ?_ | refine drawKu rfl rfl rfl rfl ?_) | ((first | refine seqK rfl rfl (fun K' hK => ?_) | refine seqKr rfl rfl rfl rfl (fun K' hK => ?_)); refine stp ?_; with_reducible refine hK _ _ ?_; clear hK K') | ((first | refine drawK rfl rfl (fun K' hK => ?_) | refine drawKr rfl rfl rfl rfl (fun K' hK => ?_)); refine stp ?_; with_reducible refine hK _ _ _ ?_; clear hK K') | (refine seqKz rfl rfl (fun K' hK => ?_); refine stp ?_; with_reducible refine hK _ ?_; clear hK K') | (refine drawKz rfl rfl (fun K' hK => ?_); refine stp ?_; with_reducible refine hK _ _ ?_; clear hK K'))
    (first | refine seqK rfl rfl (fun K' hK => ?_) | refine seqKr rfl rfl rfl rfl (fun K' hK => ?_)); (conv => whnf); refine useT (wy.toT) ?_ ⟨⟨rfl, rfl, rfl, trivial⟩, trivial⟩; with_reducible refine hK _ _ ?_; clear hK K'; repeat (first | (with_reducible refine wpKs ?_) | (with_reducible refine wpKb ?_) | (with_reducible refine wpKbn ?_) | (with_reducible refine wpKk ?_) | (refine wpKt rfl ?_) | (refine wpKf rfl ?_) | (with_reducible refine wpKr ?_) | ((with_reducible refine wpKd ?_ ?_); kernel_rfl) | (with_reducible refine wpKn ?_) | (with_reducible refine seqKn ?_) | (with_reducible refine drawKn ?_) | (first | refine seqKs rfl rfl rfl rfl ?_ | refine seqKu rfl rfl rfl rfl ?_ | refine drawKs rfl rfl rfl rfl ?_ | refine drawKu rfl rfl rfl rfl ?_) | ((first | refine seqK rfl rfl (fun K' hK => ?_) | refine seqKr rfl rfl rfl rfl (fun K' hK => ?_)); refine stp ?_; with_reducible refine hK _ _ ?_; clear hK K') | ((first | refine drawK rfl rfl (fun K' hK => ?_) | refine drawKr rfl rfl rfl rfl (fun K' hK => ?_)); refine stp ?_; with_reducible refine hK _ _ _ ?_; clear hK K') | (refine seqKz rfl rfl (fun K' hK => ?_); refine stp ?_; with_reducible refine hK _ ?_; clear hK K') | (refine drawKz rfl rfl (fun K' hK => ?_); refine stp ?_; with_reducible refine hK _ _ ?_; clear hK K'))
    cases p2
    · repeat (first | (with_reducible refine wpKs ?_) | (with_reducible refine wpKb ?_) | (with_reducible refine wpKbn ?_) | (with_reducible refine wpKk ?_) | (refine wpKt rfl ?_) | (refine wpKf rfl ?_) | (with_reducible refine wpKr ?_) | ((with_reducible refine wpKd ?_ ?_); kernel_rfl) | (with_reducible refine wpKn ?_) | (with_reducible refine seqKn ?_) | (with_reducible refine drawKn ?_) | (first | refine seqKs rfl rfl rfl rfl ?_ | refine seqKu rfl rfl rfl rfl ?_ | refine drawKs rfl rfl rfl rfl ?_ | refine drawKu rfl rfl rfl rfl ?_) | ((first | refine seqK rfl rfl (fun K' hK => ?_) | refine seqKr rfl rfl rfl rfl (fun K' hK => ?_)); refine stp ?_; with_reducible refine hK _ _ ?_; clear hK K') | ((first | refine drawK rfl rfl (fun K' hK => ?_) | refine drawKr rfl rfl rfl rfl (fun K' hK => ?_)); refine stp ?_; with_reducible refine hK _ _ _ ?_; clear hK K') | (refine seqKz rfl rfl (fun K' hK => ?_); refine stp ?_; with_reducible refine hK _ ?_; clear hK K') | (refine drawKz rfl rfl (fun K' hK => ?_); refine stp ?_; with_reducible refine hK _ _ ?_; clear hK K'))
      refine stp ?_; try with_reducible exact True.intro
      rfl
    · have hy := hy rfl
      repeat (first | (with_reducible refine wpKs ?_) | (with_reducible refine wpKb ?_) | (with_reducible refine wpKbn ?_) | (with_reducible refine wpKk ?_) | (refine wpKt rfl ?_) | (refine wpKf rfl ?_) | (with_reducible refine wpKr ?_) | ((with_reducible refine wpKd ?_ ?_); kernel_rfl) | (with_reducible refine wpKn ?_) | (with_reducible refine seqKn ?_) | (with_reducible refine drawKn ?_) | (first | refine seqKs rfl rfl rfl rfl ?_ | refine seqKu rfl rfl rfl rfl ?_ | refine drawKs rfl rfl rfl rfl ?_ | refine drawKu rfl rfl rfl rfl ?_) | ((first | refine seqK rfl rfl (fun K' hK => ?_) | refine seqKr rfl rfl rfl rfl (fun K' hK => ?_)); refine stp ?_; with_reducible refine hK _ _ ?_; clear hK K') | ((first | refine drawK rfl rfl (fun K' hK => ?_) | refine drawKr rfl rfl rfl rfl (fun K' hK => ?_)); refine stp ?_; with_reducible refine hK _ _ _ ?_; clear hK K') | (refine seqKz rfl rfl (fun K' hK => ?_); refine stp ?_; with_reducible refine hK _ ?_; clear hK K') | (refine drawKz rfl rfl (fun K' hK => ?_); refine stp ?_; with_reducible refine hK _ _ ?_; clear hK K'))
      generalize decide (b = 0) = q at *
      cases q
      · repeat (first | (with_reducible refine wpKs ?_) | (with_reducible refine wpKb ?_) | (with_reducible refine wpKbn ?_) | (with_reducible refine wpKk ?_) | (refine wpKt rfl ?_) | (refine wpKf rfl ?_) | (with_reducible refine wpKr ?_) | ((with_reducible refine wpKd ?_ ?_); kernel_rfl) | (with_reducible refine wpKn ?_) | (with_reducible refine seqKn ?_) | (with_reducible refine drawKn ?_) | (first | refine seqKs rfl rfl rfl rfl ?_ | refine seqKu rfl rfl rfl rfl ?_ | refine drawKs rfl rfl rfl rfl ?_ | refine drawKu rfl rfl rfl rfl ?_) | ((first | refine seqK rfl rfl (fun K' hK => ?_) | refine seqKr rfl rfl rfl rfl (fun K' hK => ?_)); refine stp ?_; with_reducible refine hK _ _ ?_; clear hK K') | ((first | refine drawK rfl rfl (fun K' hK => ?_) | refine drawKr rfl rfl rfl rfl (fun K' hK => ?_)); refine stp ?_; with_reducible refine hK _ _ _ ?_; clear hK K') | (refine seqKz rfl rfl (fun K' hK => ?_); refine stp ?_; with_reducible refine hK _ ?_; clear hK K') | (refine drawKz rfl rfl (fun K' hK => ?_); refine stp ?_; with_reducible refine hK _ _ ?_; clear hK K'))
        generalize decide (b2 = 0) = q2 at *
        cases q2
        · repeat (first | (with_reducible refine wpKs ?_) | (with_reducible refine wpKb ?_) | (with_reducible refine wpKbn ?_) | (with_reducible refine wpKk ?_) | (refine wpKt rfl ?_) | (refine wpKf rfl ?_) | (with_reducible refine wpKr ?_) | ((with_reducible refine wpKd ?_ ?_); kernel_rfl) | (with_reducible refine wpKn ?_) | (with_reducible refine seqKn ?_) | (with_reducible refine drawKn ?_) | (first | refine seqKs rfl rfl rfl rfl ?_ | refine seqKu rfl rfl rfl rfl ?_ | refine drawKs rfl rfl rfl rfl ?_ | refine drawKu rfl rfl rfl rfl ?_) | ((first | refine seqK rfl rfl (fun K' hK => ?_) | refine seqKr rfl rfl rfl rfl (fun K' hK => ?_)); refine stp ?_; with_reducible refine hK _ _ ?_; clear hK K') | ((first | refine drawK rfl rfl (fun K' hK => ?_) | refine drawKr rfl rfl rfl rfl (fun K' hK => ?_)); refine stp ?_; with_reducible refine hK _ _ _ ?_; clear hK K') | (refine seqKz rfl rfl (fun K' hK => ?_); refine stp ?_; with_reducible refine hK _ ?_; clear hK K') | (refine drawKz rfl rfl (fun K' hK => ?_); refine stp ?_; with_reducible refine hK _ _ ?_; clear hK K'))
          (first | refine seqK rfl rfl (fun K' hK => ?_) | refine seqKr rfl rfl rfl rfl (fun K' hK => ?_)); (conv => whnf); refine useT (w2.toT) ?_ ⟨⟨rfl, rfl, rfl, trivial⟩, trivial⟩; with_reducible refine hK _ _ ?_; clear hK K'; repeat (first | (with_reducible refine wpKs ?_) | (with_reducible refine wpKb ?_) | (with_reducible refine wpKbn ?_) | (with_reducible refine wpKk ?_) | (refine wpKt rfl ?_) | (refine wpKf rfl ?_) | (with_reducible refine wpKr ?_) | ((with_reducible refine wpKd ?_ ?_); kernel_rfl) | (with_reducible refine wpKn ?_) | (with_reducible refine seqKn ?_) | (with_reducible refine drawKn ?_) | (first | refine seqKs rfl rfl rfl rfl ?_ | refine seqKu rfl rfl rfl rfl ?_ | refine drawKs rfl rfl rfl rfl ?_ | refine drawKu rfl rfl rfl rfl ?_) | ((first | refine seqK rfl rfl (fun K' hK => ?_) | refine seqKr rfl rfl rfl rfl (fun K' hK => ?_)); refine stp ?_; with_reducible refine hK _ _ ?_; clear hK K') | ((first | refine drawK rfl rfl (fun K' hK => ?_) | refine drawKr rfl rfl rfl rfl (fun K' hK => ?_)); refine stp ?_; with_reducible refine hK _ _ _ ?_; clear hK K') | (refine seqKz rfl rfl (fun K' hK => ?_); refine stp ?_; with_reducible refine hK _ ?_; clear hK K') | (refine drawKz rfl rfl (fun K' hK => ?_); refine stp ?_; with_reducible refine hK _ _ ?_; clear hK K'))
          generalize isS _ = u at *
          cases u
          · refine stp ?_; try with_reducible exact True.intro
            rfl
          · refine stp ?_; try with_reducible exact True.intro
            rfl
        · repeat (first | (with_reducible refine wpKs ?_) | (with_reducible refine wpKb ?_) | (with_reducible refine wpKbn ?_) | (with_reducible refine wpKk ?_) | (refine wpKt rfl ?_) | (refine wpKf rfl ?_) | (with_reducible refine wpKr ?_) | ((with_reducible refine wpKd ?_ ?_); kernel_rfl) | (with_reducible refine wpKn ?_) | (with_reducible refine seqKn ?_) | (with_reducible refine drawKn ?_) | (first | refine seqKs rfl rfl rfl rfl ?_ | refine seqKu rfl rfl rfl rfl ?_ | refine drawKs rfl rfl rfl rfl ?_ | refine drawKu rfl rfl rfl rfl ?_) | ((first | refine seqK rfl rfl (fun K' hK => ?_) | refine seqKr rfl rfl rfl rfl (fun K' hK => ?_)); refine stp ?_; with_reducible refine hK _ _ ?_; clear hK K') | ((first | refine drawK rfl rfl (fun K' hK => ?_) | refine drawKr rfl rfl rfl rfl (fun K' hK => ?_)); refine stp ?_; with_reducible refine hK _ _ _ ?_; clear hK K') | (refine seqKz rfl rfl (fun K' hK => ?_); refine stp ?_; with_reducible refine hK _ ?_; clear hK K') | (refine drawKz rfl rfl (fun K' hK => ?_); refine stp ?_; with_reducible refine hK _ _ ?_; clear hK K'))
          refine stp ?_; try with_reducible exact True.intro
          rfl
      · repeat (first | (with_reducible refine wpKs ?_) | (with_reducible refine wpKb ?_) | (with_reducible refine wpKbn ?_) | (with_reducible refine wpKk ?_) | (refine wpKt rfl ?_) | (refine wpKf rfl ?_) | (with_reducible refine wpKr ?_) | ((with_reducible refine wpKd ?_ ?_); kernel_rfl) | (with_reducible refine wpKn ?_) | (with_reducible refine seqKn ?_) | (with_reducible refine drawKn ?_) | (first | refine seqKs rfl rfl rfl rfl ?_ | refine seqKu rfl rfl rfl rfl ?_ | refine drawKs rfl rfl rfl rfl ?_ | refine drawKu rfl rfl rfl rfl ?_) | ((first | refine seqK rfl rfl (fun K' hK => ?_) | refine seqKr rfl rfl rfl rfl (fun K' hK => ?_)); refine stp ?_; with_reducible refine hK _ _ ?_; clear hK K') | ((first | refine drawK rfl rfl (fun K' hK => ?_) | refine drawKr rfl rfl rfl rfl (fun K' hK => ?_)); refine stp ?_; with_reducible refine hK _ _ _ ?_; clear hK K') | (refine seqKz rfl rfl (fun K' hK => ?_); refine stp ?_; with_reducible refine hK _ ?_; clear hK K') | (refine drawKz rfl rfl (fun K' hK => ?_); refine stp ?_; with_reducible refine hK _ _ ?_; clear hK K'))
        refine stp ?_; try with_reducible exact True.intro
        rfl
end Go.Proofs.YtaoepnmhflmhhaaTv
end
section
open Go Go.Proofs.YtaoepnmhflmhhaaVe Go.Proofs.YtaoepnmhflmhhaaTv Go.Proofs
namespace Go.Proofs.YtaoepnmhflmhhaaTv
set_option maxRecDepth 8000
set_option maxHeartbeats 2000000
abbrev Sq := Int × Int × Int × Unit
@[reducible] def sqT : Ty := .pair (.int .i64) (.pair (.int .i64) (.pair (.int .i64) .unit))
theorem okEqS : okEq Try.prog 44 3 = true := by kernel_rfl
theorem sqEq (a b : Sq) : (a.1 == b.1 && (a.2.1 == b.2.1 && (a.2.2.1 == b.2.2.1 && true))) = decide (a = b) := by
  obtain ⟨x, y, z, _⟩ := a
  obtain ⟨x', y', z', _⟩ := b
  simp [Bool.decide_and]
  rfl
theorem sameSurfaces (l m : List Sq) (hl : (l.length : Int) ≤ 1048576) (hm : (m.length : Int) ≤ 1048576) : ConS Try.prog 39 [.val (.list sqT) l, .val (.list sqT) m] (.b (decide (l = m))) := by
  refine conS_of hmix hTab Try.func39 rfl rfl (by kernel_rfl) (by show 2 ≤ Try.f39.ntmps; decide) rfl ?_
  refine stp ?_; try with_reducible exact True.intro
  refine Br.mk (fun h => ?_) (fun h => ?_) <;> simp only [decide_eq_true_eq, decide_eq_false_iff_not, ne_eq, Decidable.not_not, Bool.not_eq_eq_eq_not, Bool.not_true, Bool.not_false] at h
  · refine stp ?_; try with_reducible exact True.intro
    have : l ≠ m := fun e => h (by rw [e])
    simp [this]
  · have hlen : l.length = m.length := by omega
    refine stp ?_; try with_reducible exact True.intro
    refine ⟨Nat, fun i => i ≤ l.length ∧ l.take i = m.take i, fun i => l.length - i, fun i => [(0, .val (.list sqT) l), (1, .val (.list sqT) m), (5, .i i)], fun i => [], ⟨0, ⟨.frz [], [], ⟨rfl, rfl, rfl, trivial⟩, trivial, by decide, rfl, rfl, rfl⟩, by simp⟩, fun i hi => ?_⟩
    obtain ⟨h1, h2⟩ := hi
    refine stp ?_; try with_reducible exact True.intro
    refine Br.mk (fun h3 => ?_) (fun h3 => ?_) <;> simp only [decide_eq_true_eq, decide_eq_false_iff_not, ne_eq, Decidable.not_not, Bool.not_eq_eq_eq_not, Bool.not_true, Bool.not_false] at h3
    · refine stp ?_; try with_reducible exact True.intro
      simp only [sqEq]
      have el : l[i]? = some (rdT sqT l i) := by have := rdT_get sqT l (i : Int) (by simp; omega); rw [Int.toNat_natCast] at this; exact this
      have em : m[i]? = some (rdT sqT m i) := by have := rdT_get sqT m (i : Int) (by simp; omega); rw [Int.toNat_natCast] at this; exact this
      by_cases h4 : rdT sqT l i = rdT sqT m i
      · refine brF (by rw [decide_eq_true h4]; rfl) ?_
        refine stp ?_; try with_reducible exact True.intro
        exact ⟨i + 1, ⟨.frz [], [], ⟨rfl, rfl, rfl, trivial⟩, trivial, by decide, rfl, rfl, rfl⟩, ⟨by omega, by rw [List.take_add_one, List.take_add_one, h2, el, em, h4]⟩, by first | omega | (dsimp only; omega)⟩
      · refine brT (by rw [decide_eq_false h4]; rfl) ?_
        refine stp ?_; try with_reducible exact True.intro
        have : l ≠ m := fun e => h4 (by rw [e])
        simp [this]
    · refine stp ?_; try with_reducible exact True.intro
      have e1 : i = l.length := by omega
      have e2 : l = m := by
        rw [e1, List.take_length, hlen, List.take_length] at h2
        exact h2
      simp [e2]
end Go.Proofs.YtaoepnmhflmhhaaTv
end
