/- What functions of the program give: each contract holds for all arguments that its own sentence names. -/
import Derived.Test.YtaoepnmhflmhhabDoorTv5
import Derived.Test.YtaoepnmhflmhhabDoorProg
import Derived.Shelf.Strings.OnBuilder
import Derived.Shelf.LaysM
import Derived.Shelf.Strconv.Itoa3
import Derived.Lib.ItoaLen
set_option linter.unusedVariables false
set_option linter.unusedSimpArgs false
section
open Go Go.Proofs.YtaoepnmhflmhhabDoorVe Go.Proofs.YtaoepnmhflmhhabDoorTv Go.Proofs
namespace Go.Proofs.YtaoepnmhflmhhabDoorTv
set_option maxRecDepth 8000
set_option maxHeartbeats 2000000
def tab : List (Nat × TE) := [(1, ⟨.fnil, .other, 8⟩), (3, ⟨.int .i64, .int .i64, 8⟩), (4, ⟨.bool, .bool, 1⟩), (5, ⟨.int .u8, .int .u8, 1⟩), (9, ⟨.str, .str, 16⟩), (22, ⟨.list (.list (.int .i64)), .sl 31, 24⟩), (23, ⟨.fnil, .other, 8⟩), (24, ⟨.fnil, .other, 8⟩), (25, ⟨.fnil, .other, 8⟩), (26, ⟨.fnil, .other, 8⟩), (27, ⟨.fnil, .other, 8⟩), (28, ⟨.fnil, .other, 8⟩), (29, ⟨.fnil, .other, 8⟩), (30, ⟨.fnil, .other, 8⟩), (31, ⟨.list (.int .i64), .sl 3, 24⟩), (32, ⟨.list (.str), .sl 9, 24⟩), (33, ⟨.fnil, .other, 8⟩), (34, ⟨.fnil, .other, 8⟩), (35, ⟨.fnil, .other, 8⟩), (36, ⟨.fnil, .other, 8⟩), (37, ⟨.fnil, .other, 8⟩), (38, ⟨.list (.int .u8), .sl 5, 24⟩), (39, ⟨.fnil, .other, 8⟩), (40, ⟨.fnil, .other, 8⟩), (42, ⟨.fnil, .other, 8⟩), (43, ⟨.fnil, .other, 8⟩), (44, ⟨.fnil, .other, 8⟩), (48, ⟨.fnil, .other, 8⟩), (52, ⟨.fnil, .other, 8⟩), (53, ⟨.fnil, .other, 8⟩), (54, ⟨.fnil, .other, 8⟩), (55, ⟨.pair (.list (.int .i64)) (.unit), .st [(0, 1)], 24⟩), (56, ⟨.pair (.list (.int .i64)) (.unit), .st [(0, 1)], 24⟩), (57, ⟨.fnil, .other, 8⟩), (59, ⟨.fnil, .other, 8⟩), (61, ⟨.fnil, .other, 8⟩), (62, ⟨.fnil, .other, 8⟩), (65, ⟨.fnil, .other, 8⟩), (66, ⟨.fnil, .other, 8⟩), (68, ⟨.fnil, .other, 8⟩), (72, ⟨.fnil, .other, 8⟩), (73, ⟨.int .u64, .int .u64, 8⟩), (74, ⟨.fnil, .other, 8⟩), (75, ⟨.fnil, .other, 8⟩), (85, ⟨.fnil, .other, 8⟩)]
theorem hmix : Tryd.prog.follows .mixedOrders = true := by kernel_rfl
theorem hTab : TabOk Tryd.prog tab := fun t e h => by
  refine tabAll_ok (l := tab) ?_ t e h
  refine ⟨⟨by kernel_rfl, trivial⟩, ⟨by kernel_rfl, rfl⟩, ⟨by kernel_rfl, trivial⟩, ⟨by kernel_rfl, rfl⟩, ⟨by kernel_rfl, trivial⟩, ⟨by kernel_rfl, _, rfl, rfl, by decide, by decide, by decide⟩, ⟨by kernel_rfl, trivial⟩, ⟨by kernel_rfl, trivial⟩, ⟨by kernel_rfl, trivial⟩, ⟨by kernel_rfl, trivial⟩, ⟨by kernel_rfl, trivial⟩, ⟨by kernel_rfl, trivial⟩, ⟨by kernel_rfl, trivial⟩, ⟨by kernel_rfl, trivial⟩, ⟨by kernel_rfl, _, rfl, rfl, by decide, by decide, by decide⟩, ⟨by kernel_rfl, _, rfl, rfl, by decide, by decide, by decide⟩, ⟨by kernel_rfl, trivial⟩, ⟨by kernel_rfl, trivial⟩, ⟨by kernel_rfl, trivial⟩, ⟨by kernel_rfl, trivial⟩, ⟨by kernel_rfl, trivial⟩, ⟨by kernel_rfl, _, rfl, rfl, by decide, by decide, by decide⟩, ⟨by kernel_rfl, trivial⟩, ⟨by kernel_rfl, trivial⟩, ⟨by kernel_rfl, trivial⟩, ⟨by kernel_rfl, trivial⟩, ⟨by kernel_rfl, trivial⟩, ⟨by kernel_rfl, trivial⟩, ⟨by kernel_rfl, trivial⟩, ⟨by kernel_rfl, trivial⟩, ⟨by kernel_rfl, trivial⟩, ⟨by kernel_rfl, trivial⟩, ⟨by kernel_rfl, trivial⟩, ⟨by kernel_rfl, trivial⟩, ⟨by kernel_rfl, trivial⟩, ⟨by kernel_rfl, trivial⟩, ⟨by kernel_rfl, trivial⟩, ⟨by kernel_rfl, trivial⟩, ⟨by kernel_rfl, trivial⟩, ⟨by kernel_rfl, trivial⟩, ⟨by kernel_rfl, trivial⟩, ⟨by kernel_rfl, rfl⟩, ⟨by kernel_rfl, trivial⟩, ⟨by kernel_rfl, trivial⟩, ⟨by kernel_rfl, trivial⟩, trivial⟩
theorem l1In (a lo hi : Int) : ConS Tryd.prog 25 [.i a, .i lo, .i hi] (.b (decide (lo ≤ a ∧ a ≤ hi))) := by
  refine conS_of hmix hTab Tryd.func25 rfl rfl (by kernel_rfl) (by show 3 ≤ Tryd.f25.ntmps; decide) rfl ?_
  refine stp ?_; try with_reducible exact True.intro
  refine Br.mk (fun h => ?_) (fun h => ?_)
  all_goals refine stp ?_; try with_reducible exact True.intro
  all_goals (simp at h; simp [h])
  omega
theorem within (a lo hi : Int) : ConS Tryd.prog 27 [.i a, .i lo, .i hi] (.b (decide (lo ≤ a ∧ a ≤ hi))) := by
  refine conS_of hmix hTab Tryd.func27 rfl rfl (by kernel_rfl) (by show 3 ≤ Tryd.f27.ntmps; decide) rfl ?_
  refine stp ?_; try with_reducible exact True.intro
  refine Br.mk (fun h => ?_) (fun h => ?_)
  all_goals refine stp ?_; try with_reducible exact True.intro
  all_goals (simp at h; simp [h])
  omega
theorem l1Bit (b : Bool) : ConS Tryd.prog 36 [.b b] (.i (if b = true then 1 else 0)) := by
  refine conS_of hmix hTab Tryd.func36 rfl rfl (by kernel_rfl) (by show 1 ≤ Tryd.f36.ntmps; decide) rfl ?_
  refine stp ?_; try with_reducible exact True.intro
  refine Br.mk (fun h => ?_) (fun h => ?_)
  all_goals refine stp ?_; try with_reducible exact True.intro
  all_goals simp [h, constV]
theorem toIntS (l : List Int) (hl : (l.length : Int) ≤ 1048576) : ConT Tryd.prog 15 [.il l] (.own 0 0 l.length) [.arr (.int .i64) l true] := by
  refine conT_of hmix hTab Tryd.func15 rfl rfl (by kernel_rfl) (by show 1 ≤ Tryd.f15.ntmps; decide) ?_
  refine stp ?_; try with_reducible exact True.intro
  refine ⟨Nat, fun i => i ≤ l.length, fun i => l.length - i, fun i => [(0, .il l), (3, .own 0 0 l.length), (4, .i i)], fun i => [.arr (.int .i64) (l.take i ++ List.replicate (l.length - i) 0) true], ⟨0, ⟨.frz [], [0], ⟨rfl, rfl, rfl, trivial⟩, ⟨rfl, trivial⟩, by decide, rfl, rfl, rfl⟩, Nat.zero_le _⟩, fun i hi => ?_⟩
  refine stp ?_; try with_reducible exact True.intro
  refine Br.mk (fun h => ?_) (fun h => ?_) <;> simp at h
  · refine stp ?_; try with_reducible exact True.intro
    refine ⟨i + 1, ⟨.frz [], [0], ⟨rfl, rfl, rfl, trivial⟩, ⟨?_, trivial⟩, by decide, rfl, rfl, rfl⟩, h, by dsimp only; omega⟩
    refine congrArg (fun x => some (Obj.arr (.int .i64) x true)) ?_
    have := fill_step id l (0 : Int) rfl (rd_get (l := l) (i := (i : Int)) (by simpa using h))
    simpa using this
  · refine stp ?_; try with_reducible exact True.intro
    obtain rfl : i = l.length := Nat.le_antisymm hi h
    exact ⟨.frz [], [0], ⟨rfl, trivial⟩, ⟨by simp [Obj.ren, frzI], trivial⟩, by decide, rfl, rfl, rfl⟩
end Go.Proofs.YtaoepnmhflmhhabDoorTv
end
section
open Go Go.Proofs.YtaoepnmhflmhhabDoorVe Go.Proofs.YtaoepnmhflmhhabDoorTv Go.Proofs
namespace Go.Proofs.YtaoepnmhflmhhabDoorTv
set_option maxRecDepth 8000
set_option maxHeartbeats 2000000
/-- A law's own checks: rows that are equal. -/
theorem ConS.toT {P : Program} {f : Nat} {args : List V} {rs : V} (h : ConS P f args rs) : ConT P f args rs [] := by
  obtain ⟨h1, h2, h3⟩ := h
  refine ⟨h2, fun m s avs hno hs hS hv => (h3 m s avs hno hs hS hv).mono fun av H' ⟨e1, e2⟩ => ⟨m, e2.symm, hS, Kp.refl m [], Fr.refl m s, ?_⟩⟩
  rw [e1]; exact scal_vt m [] rs h1
theorem eqIntS (l m : List Int) (hl : (l.length : Int) ≤ 274877906944) : ConS Tryd.prog 18 [.il l, .il m] (.b (decide (l = m))) := by
  refine conS_of hmix hTab Tryd.func18 rfl rfl (by kernel_rfl) (by show 2 ≤ Tryd.f18.ntmps; decide) rfl ?_
  refine stp ?_; try with_reducible exact True.intro
  refine Br.mk (fun h => ?_) (fun h => ?_) <;> simp at h
  · refine stp ?_; try with_reducible exact True.intro
    have : l ≠ m := fun e => h (by rw [e])
    simp [this]
  · refine stp ?_; try with_reducible exact True.intro
    refine ⟨Nat, fun i => i ≤ l.length ∧ ∀ k, k < i → rd l k = rd m k, fun i => l.length - i, fun i => [(0, .il l), (1, .il m), (5, .i i)], fun i => [], ⟨0, ⟨.frz [], [], ⟨rfl, rfl, rfl, trivial⟩, trivial, by decide, rfl, rfl, rfl⟩, by simp⟩, fun i ⟨hi, hk⟩ => ?_⟩
    refine stp ?_; try with_reducible exact True.intro
    refine Br.mk (fun h1 => ?_) (fun h1 => ?_) <;> simp at h1
    · refine stp ?_; try with_reducible exact True.intro
      refine Br.mk (fun h2 => ?_) (fun h2 => ?_) <;> simp at h2
      · refine stp ?_; try with_reducible exact True.intro
        have : l ≠ m := fun e => h2 (by rw [e])
        simp [this]
      · refine stp ?_; try with_reducible exact True.intro
        refine ⟨i + 1, ⟨.frz [], [], ⟨rfl, rfl, rfl, trivial⟩, trivial, by decide, rfl, rfl, rfl⟩, ⟨h1, fun k hk1 => ?_⟩, by dsimp only; omega⟩
        by_cases e : k = i
        · rw [e]; exact h2
        · exact hk k (by omega)
    · refine stp ?_; try with_reducible exact True.intro
      have : l = m := by
        refine List.ext_getElem (by omega) fun k h2 h3 => ?_
        have := hk k (by omega)
        simpa [rd, h2, h3] using this
      simp [this]
end Go.Proofs.YtaoepnmhflmhhabDoorTv
end
section
open Go Go.Proofs.YtaoepnmhflmhhabDoorVe Go.Proofs.YtaoepnmhflmhhabDoorTv Go.Proofs
namespace Go.Proofs.YtaoepnmhflmhhabDoorTv
set_option maxRecDepth 8000
set_option maxHeartbeats 2000000
/-- n, n + 1, .. -/
def marks (n : Int) (k : Nat) : List Int := (List.range k).map fun i => n + (i : Nat)
@[simp] theorem marks_length (n : Int) (k : Nat) : (marks n k).length = k := by simp [marks]
theorem marks_get (n : Int) {k i : Nat} (h : i < k) : (marks n k)[i]? = some (n + i) := by simp [marks, h]
end Go.Proofs.YtaoepnmhflmhhabDoorTv
end
section
open Go Go.Proofs.YtaoepnmhflmhhabDoorVe Go.Proofs.YtaoepnmhflmhhabDoorTv Go.Proofs
namespace Go.Proofs.YtaoepnmhflmhhabDoorTv
set_option maxRecDepth 8000
set_option maxHeartbeats 2000000
theorem drop_consR {l : List (List Int)} {i : Nat} (h : i < l.length) : l.drop i = rdR l i :: l.drop (i + 1) := by
  rw [List.drop_eq_getElem_cons h]
  simp [rdR, h]
theorem eqIntSS (l m : List (List Int)) (hl : (l.length : Int) ≤ 274877906944) (hr : ∀ r ∈ l, (r.length : Int) ≤ 274877906944) : ConS Tryd.prog 9 [.ill l, .ill m] (.b (decide (l = m))) := by
  refine conS_of hmix hTab Tryd.func9 rfl rfl (by kernel_rfl) (by show 2 ≤ Tryd.f9.ntmps; decide) rfl ?_
  refine stp ?_; try with_reducible exact True.intro
  refine Br.mk (fun h => ?_) (fun h => ?_) <;> simp at h
  · refine stp ?_; try with_reducible exact True.intro
    have : l ≠ m := fun e => h (by rw [e])
    simp [this]
  · refine stp ?_; try with_reducible exact True.intro
    refine ⟨Nat, fun i => i ≤ l.length ∧ ∀ k, k < i → rdR l k = rdR m k, fun i => l.length - i, fun i => [(0, .ill l), (1, .ill m), (5, .i i)], fun i => [], ⟨0, (fitK [] []), by simp⟩, fun i ⟨hi, hk⟩ => ?_⟩
    dsimp only at hi hk ⊢
    refine stp ?_; try with_reducible exact True.intro
    refine Br.mk (fun h1 => ?_) (fun h1 => ?_) <;> simp [-Int.ofNat_toNat] at h1
    · have hmem : rdR l i ∈ l := by simp [rdR, h1]
      refine stp ?_; try with_reducible exact True.intro
      refine useT ((eqIntS (rdR l i) (rdR m i) (hr _ hmem)).toT) ?_; try with_reducible exact True.intro
      refine Br.mk (fun h2 => ?_) (fun h2 => ?_) <;> simp at h2
      · refine stp ?_; try with_reducible exact True.intro
        have : l ≠ m := fun e => h2 (by rw [e])
        simp [this]
      · refine stp ?_; try with_reducible exact True.intro
        refine ⟨i + 1, (fitK [] []), ⟨h1, fun k hk1 => ?_⟩, by first | ((try dsimp only); omega) | (simp; omega)⟩
        by_cases e : k = i
        · rw [e]; exact h2
        · exact hk k (by omega)
    · refine stp ?_; try with_reducible exact True.intro
      have : l = m := by
        refine List.ext_getElem (by omega) fun k h2 h3 => ?_
        have := hk k (by omega)
        simpa [rdR, h2, h3] using this
      simp [this]
def total : List (List Int) → Int
  | [] => 0
  | r :: rs => r.length + total rs
/-- n, n + 1, .. through all rows. -/
def marksR (n : Int) : List (List Int) → List (List Int)
  | [] => []
  | r :: rs => marks n r.length :: marksR (n + r.length) rs
@[simp] theorem marksR_length : ∀ (n : Int) (ll : List (List Int)), (marksR n ll).length = ll.length
  | _, [] => rfl
  | n, r :: rs => by simp [marksR, marksR_length]
theorem total_nonneg : ∀ ll, 0 ≤ total ll
  | [] => by simp [total]
  | r :: rs => by have := total_nonneg rs; simp only [total]; omega
theorem total_append : ∀ (l m : List (List Int)), total (l ++ m) = total l + total m
  | [], m => by simp [total]
  | r :: l, m => by simp only [List.cons_append, total, total_append l m]; omega
theorem marksR_append : ∀ (n : Int) (l m : List (List Int)), marksR n (l ++ m) = marksR n l ++ marksR (n + total l) m
  | n, [], m => by simp [marksR, total]
  | n, r :: l, m => by
    simp only [List.cons_append, marksR, marksR_append _ l m, total]
    rw [show n + (r.length : Int) + total l = n + ((r.length : Int) + total l) by omega]
theorem take_succR {l : List (List Int)} {i : Nat} (h : i < l.length) : l.take (i + 1) = l.take i ++ [rdR l i] := by
  rw [List.take_add_one]
  simp [rdR, h]
theorem total_le {ll : List (List Int)} {c : Nat} (h : ∀ r ∈ ll, r.length ≤ c) : total ll ≤ ll.length * c := by
  induction ll with
  | nil => simp [total]
  | cons r ll ih =>
    have h1 := ih fun x hx => h x (by simp [hx])
    have h2 := h r (by simp)
    simp only [total, List.length_cons, Nat.succ_mul, Int.natCast_add, Int.natCast_one, Int.add_mul]
    omega
theorem row_le_total : ∀ {ll : List (List Int)} {r : List Int}, r ∈ ll → (r.length : Int) ≤ total ll
  | q :: ll, r, h => by
    have := total_nonneg ll
    rcases List.mem_cons.1 h with rfl | h
    · simp only [total]; omega
    · have := row_le_total h
      simp only [total]; omega
end Go.Proofs.YtaoepnmhflmhhabDoorTv
end
section
open Go Go.Proofs.YtaoepnmhflmhhabDoorVe Go.Proofs.YtaoepnmhflmhhabDoorTv Go.Proofs
namespace Go.Proofs.YtaoepnmhflmhhabDoorTv
set_option maxRecDepth 8000
set_option maxHeartbeats 2000000
theorem rd_own (l : List Int) (x : Int) : rd l ((x.toNat : Nat) : Int) = rd l x := rfl
def szS (l : List Int) (left : Int) : Int := if left - l.length < 0 then -1 else left - l.length
theorem szIntS (l : List Int) (left : Int) (h : 0 ≤ left ∧ left ≤ 1048576) (hl : (l.length : Int) ≤ 140737488355328) : ConS Tryd.prog 12 [.il l, .i left] (.i (szS l left)) := by
  refine conS_of hmix hTab Tryd.func12 rfl rfl (by kernel_rfl) (by show 2 ≤ Tryd.f12.ntmps; decide) rfl ?_
  unfold szS
  refine stp ?_; try with_reducible exact True.intro
  refine Br.mk (fun h => ?_) (fun h => ?_) <;> simp [-Int.ofNat_toNat] at h
  · refine stp ?_; try with_reducible exact True.intro
    rw [if_pos h]
  · refine stp ?_; try with_reducible exact True.intro
    rw [if_neg (by omega)]
def szR : List (List Int) → Int → Int
  | [], left => left
  | r :: rs, left => if szS r left < 0 then -1 else szR rs (szS r left)
def szSS (ll : List (List Int)) (left : Int) : Int := if left - ll.length < 0 then -1 else szR ll (left - ll.length)
theorem szIntSS (ll : List (List Int)) (left : Int) (h : 0 ≤ left ∧ left ≤ 1048576) (hl : (ll.length : Int) ≤ 140737488355328) (hr : ∀ r ∈ ll, (r.length : Int) ≤ 140737488355328) : ConS Tryd.prog 5 [.ill ll, .i left] (.i (szSS ll left)) := by
  refine conS_of hmix hTab Tryd.func5 rfl rfl (by kernel_rfl) (by show 2 ≤ Tryd.f5.ntmps; decide) rfl ?_
  unfold szSS
  refine stp ?_; try with_reducible exact True.intro
  refine Br.mk (fun h1 => ?_) (fun h1 => ?_) <;> simp [-Int.ofNat_toNat] at h1
  · refine stp ?_; try with_reducible exact True.intro
    rw [if_pos h1]
  · rw [if_neg (by omega)]
    refine stp ?_; try with_reducible exact True.intro
    refine ⟨Nat × Int, fun a => a.1 ≤ ll.length ∧ 0 ≤ a.2 ∧ a.2 ≤ 1048576 ∧ szR (ll.drop a.1) a.2 = szR ll (left - ll.length), fun a => ll.length - a.1, fun a => [(0, .ill ll), (1, .i a.2), (5, .i a.1)], fun a => [], ⟨(0, left - ll.length), (fitK [] []), by simp; omega⟩, fun ⟨i, lf⟩ ⟨hi, h0, h2, hc⟩ => ?_⟩
    dsimp only at hi h0 h2 hc ⊢
    refine stp ?_; try with_reducible exact True.intro
    refine Br.mk (fun h3 => ?_) (fun h3 => ?_) <;> simp [-Int.ofNat_toNat] at h3
    · have hmem : rdR ll i ∈ ll := by simp [rdR, h3]
      rw [drop_consR h3, szR] at hc
      refine stp ?_; try with_reducible exact True.intro
      refine useT ((szIntS (rdR ll i) lf ⟨h0, h2⟩ (hr _ hmem)).toT) ?_; try with_reducible exact True.intro
      refine Br.mk (fun h4 => ?_) (fun h4 => ?_) <;> simp [-Int.ofNat_toNat] at h4
      · rw [if_pos h4] at hc
        refine stp ?_; try with_reducible exact True.intro
        rw [← hc]
      · rw [if_neg (by omega)] at hc
        refine stp ?_; try with_reducible exact True.intro
        refine ⟨(i + 1, szS (rdR ll i) lf), (fitK [] []), ⟨h3, h4, ?_, hc⟩, by first | ((try dsimp only); omega) | (simp; omega)⟩
        dsimp only
        unfold szS
        split <;> omega
    · refine stp ?_; try with_reducible exact True.intro
      obtain rfl : i = ll.length := by omega
      simp [szR] at hc
      rw [← hc]
theorem szSS_facts {ll : List (List Int)} {left : Int} (hb : left ≤ 1048576) (h : 0 ≤ szSS ll left) : (ll.length : Int) ≤ 1048576 ∧ ∀ r ∈ ll, (r.length : Int) ≤ 1048576 := by
  unfold szSS at h
  split at h
  · omega
  · rename_i h1
    refine ⟨by omega, ?_⟩
    have : ∀ (l : List (List Int)) (lf : Int), 0 ≤ lf → lf ≤ 1048576 → 0 ≤ szR l lf → ∀ r ∈ l, (r.length : Int) ≤ 1048576 := by
      intro l
      induction l with
      | nil => simp
      | cons r l ih =>
        intro lf h0 h1 h2 x hx
        unfold szR at h2
        split at h2
        · omega
        · rename_i h3
          have h4 : szS r lf = lf - r.length := by
            unfold szS at h3 ⊢
            split
            · rename_i h5; simp [h5] at h3
            · rfl
          rcases List.mem_cons.1 hx with rfl | hx
          · omega
          · exact ih _ (by omega) (by omega) h2 x hx
    exact this ll _ (by omega) (by omega) h
theorem szSS_le {ll : List (List Int)} {left : Int} (hb : left ≤ 1048576) : szSS ll left ≤ 1048576 := by
  unfold szSS
  split
  · omega
  · have : ∀ (l : List (List Int)) (lf : Int), lf ≤ 1048576 → szR l lf ≤ 1048576 := by
      intro l
      induction l with
      | nil => exact fun lf h => h
      | cons r l ih =>
        intro lf h
        unfold szR
        split
        · omega
        · refine ih _ ?_
          unfold szS
          split <;> omega
    exact this _ _ (by omega)
theorem toIntSS (ll : List (List Int)) (hl : (ll.length : Int) ≤ 1048576) (hr : ∀ r ∈ ll, (r.length : Int) ≤ 1048576) : ConT Tryd.prog 7 [.ill ll] (.own 0 0 ll.length) [.arr (.list (.int .i64)) ll true] := by
  refine conT_of hmix hTab Tryd.func7 rfl rfl (by kernel_rfl) (by show 1 ≤ Tryd.f7.ntmps; decide) ?_
  refine stp ?_; try with_reducible exact True.intro
  refine ⟨Nat, fun i => i ≤ ll.length, fun i => ll.length - i, fun i => [(0, .ill ll), (3, .own 0 0 ll.length), (4, .i i)], fun i => [.arr (.list (.int .i64)) (ll.take i ++ List.replicate (ll.length - i) []) true], ⟨0, (fitK [] [0]), Nat.zero_le _⟩, fun i hi => ?_⟩
  dsimp only at hi
  refine stp ?_; try with_reducible exact True.intro
  refine Br.mk (fun h => ?_) (fun h => ?_) <;> simp [-Int.ofNat_toNat] at h
  · have hmem : rdR ll i ∈ ll := by simp [rdR, h]
    refine stp ?_; try with_reducible exact True.intro
    refine useT (toIntS (rdR ll i) (hr _ hmem)) ?_; try with_reducible exact True.intro
    refine ⟨_, _, _, _, rfl, rfl, rfl, by decide, rfl, by first | omega | (simp; done) | (simp; omega), ?_⟩; refine stp ?_; try with_reducible exact True.intro
    refine ⟨i + 1, ⟨.frz [], [0], by repeat (first | exact trivial | refine ⟨by first | rfl | (simp [Obj.ren, frzI, -Int.ofNat_toNat]; done) | (simp [Obj.ren, frzI, V.ren, V.rens, V.cells, EnvV.ev, EnvV.upd, mkE, backL, backN, -Int.ofNat_toNat]; done) | (simp [Obj.ren, frzI, -Int.ofNat_toNat]; omega), ?_⟩), ⟨?_, trivial⟩, by decide, rfl, rfl, rfl⟩, h, by first | ((try dsimp only); omega) | (simp; omega)⟩
    refine congrArg (fun x => some (Obj.arr (.list (.int .i64)) x true)) ?_
    have h2 : ll[i]? = some (rdR ll i) := by simp [rdR, h]
    have := fill_step id ll ([] : List Int) rfl h2
    simpa using this
  · refine stp ?_; try with_reducible exact True.intro
    obtain rfl : i = ll.length := Nat.le_antisymm hi h
    exact (fitK [] [0])
end Go.Proofs.YtaoepnmhflmhhabDoorTv
end
section
namespace Go.Proofs
open Go.Shelf
def Tryd.lays156_ren : Go.Shelf.Ren := ⟨fun | 156 => 24 | 165 => 32 | 166 => 33 | 169 => 34 | 240 => 39 | 241 => 40 | 276 => 42 | 277 => 43 | n => n, fun | 31 => 32 | 9 => 9 | 3 => 3 | 4 => 4 | 0 => 0 | 20 => 20 | 72 => 47 | 76 => 51 | 70 => 45 | 37 => 38 | 75 => 50 | 127 => 58 | 164 => 60 | 5 => 5 | 80 => 53 | n => n, fun | n => n⟩
theorem Tryd.lays156 : Go.Proofs.Lays.n156 Tryd.prog Tryd.lays156_ren := {
  mixed := by kernel_rfl
  f156 := Tryd.func24.trans (congrArg some (by kernel_rfl))
  f165 := Tryd.func32.trans (congrArg some (by kernel_rfl))
  f166 := Tryd.func33.trans (congrArg some (by kernel_rfl))
  f169 := Tryd.func34.trans (congrArg some (by kernel_rfl))
  f240 := Tryd.func39.trans (congrArg some (by kernel_rfl))
  f241 := Tryd.func40.trans (congrArg some (by kernel_rfl))
  f276 := Tryd.func42.trans (congrArg some (by kernel_rfl))
  f277 := Tryd.func43.trans (congrArg some (by kernel_rfl))
  t0 := Tryd.underlying0
  a0 := Tryd.isAgg0
  z0 := Tryd.sizeOf0
  v0 := Tryd.zeroValue0
  t3 := Tryd.underlying3
  a3 := Tryd.isAgg3
  z3 := Tryd.sizeOf3
  v3 := Tryd.zeroValue3
  t4 := Tryd.underlying4
  a4 := Tryd.isAgg4
  z4 := Tryd.sizeOf4
  v4 := Tryd.zeroValue4
  t9 := Tryd.underlying9
  a9 := Tryd.isAgg9
  z9 := Tryd.sizeOf9
  v9 := Tryd.zeroValue9
  t20 := Tryd.underlying20
  a20 := Tryd.isAgg20
  z20 := Tryd.sizeOf20
  v20 := Tryd.zeroValue20
  t31 := Tryd.underlying32
  a31 := Tryd.isAgg32
  z31 := Tryd.sizeOf32
  v31 := Tryd.zeroValue32
  t37 := Tryd.underlying38
  a37 := Tryd.isAgg38
  z37 := Tryd.sizeOf38
  v37 := Tryd.zeroValue38
  t70 := Tryd.underlying45
  a70 := Tryd.isAgg45
  z70 := Tryd.sizeOf45
  v70 := Tryd.zeroValue45
  t72 := Tryd.underlying47
  a72 := Tryd.isAgg47
  z72 := Tryd.sizeOf47
  v72 := Tryd.zeroValue47
  t75 := Tryd.underlying50
  a75 := Tryd.isAgg50
  z75 := Tryd.sizeOf50
  v75 := Tryd.zeroValue50
  t76 := Tryd.underlying51
  a76 := Tryd.isAgg51
  z76 := Tryd.sizeOf51
  v76 := Tryd.zeroValue51
  t127 := Tryd.underlying58
  a127 := Tryd.isAgg58
  z127 := Tryd.sizeOf58
  v127 := Tryd.zeroValue58
  t164 := Tryd.underlying60
  a164 := Tryd.isAgg60
  z164 := Tryd.sizeOf60
  v164 := Tryd.zeroValue60 }
theorem Tryd.Builder_Extra_156 : Builder.Extra Tryd.prog Tryd.lays156_ren := {
  sizeBuilder := by kernel_rfl
  liesBuilder := by kernel_rfl
  t5 := Tryd.underlying5
  a5 := Tryd.isAgg5
  z5 := Tryd.sizeOf5
  v5 := Tryd.zeroValue5
  infoByte := by kernel_rfl
  cellsByte := by kernel_rfl
  sizeByte := by kernel_rfl
  neB5 := by decide }
open Go.RowKit in
/-- No element: the empty string; the world is as it was. (Whatever the slice's address and capacity: a nil slice too.) (LAID: no walk: one application.) -/
theorem Tryd.strings_Join_none (a : Option Addr) (c : Nat) (sep : ByteArray) (w : World) :
    Calls Tryd.prog 24 #[.slice a 0 c, .string sep] w fun e w' => e = .returned (.string ⟨#[]⟩) ∧ w' = w := Any.strings_Join_none Tryd.lays156 Tryd.Builder_Extra_156 a c sep w
open Go.RowKit in
/-- strings.Join: "Join concatenates the elements of its first argument to create a single string. The separator string sep is placed between elements in the resulting string.": HOWEVER MANY ELEMENTS. Below the heap's end the world is as it was. (LAID: no walk: one application.) -/
theorem Tryd.strings_Join (bk o c : Nat) (xs : List ByteArray) (sep : ByteArray) (w : World) (hcells : ∀ (j : Nat) x, xs[j]? = some x → w.cell? ⟨bk, o + j, none⟩ = some (.string x)) (hbk : bk < w.heap.size) (hN : xs.length ≤ 140737488355328) (hcap : xs.length ≤ c) (hlen : (Lib.join (xs.map (·.data.toList)) sep.data.toList).length ≤ 140737488355328) :
    Calls Tryd.prog 24 #[.slice (some ⟨bk, o, none⟩) xs.length c, .string sep] w fun e w' => e = .returned (.string ⟨(Lib.join (xs.map (·.data.toList)) sep.data.toList).toArray⟩) ∧ Below w.heap.size w w' := Any.strings_Join Tryd.lays156 Tryd.Builder_Extra_156 bk o c xs sep w hcells hbk hN hcap hlen
def Tryd.laysM171_ren : Go.Shelf.Ren := ⟨fun | 171 => 31 | 243 => 38 | 246 => 41 | 283 => 44 | 284 => 45 | 285 => 46 | 286 => 47 | 129 => 49 | 317 => 48 | 318 => 50 | 319 => 51 | 320 => 52 | 337 => 53 | 338 => 54 | n => n, fun | 3 => 3 | 9 => 9 | 2 => 2 | 4 => 4 | 171 => 63 | 0 => 0 | 53 => 64 | 37 => 38 | 5 => 5 | 173 => 67 | 212 => 69 | 51 => 70 | 20 => 20 | 213 => 71 | 46 => 73 | 232 => 76 | 233 => 77 | n => n, fun | 17 => 1 | 18 => 2 | 19 => 3 | n => n⟩
theorem Tryd.laysM171 : Go.Proofs.LaysM.n171 Tryd.prog Tryd.laysM171_ren := {
  mixed := by kernel_rfl
  f129 := Tryd.func49.trans (congrArg some (by kernel_rfl))
  f171 := Tryd.func31.trans (congrArg some (by kernel_rfl))
  f243 := Tryd.func38.trans (congrArg some (by kernel_rfl))
  f246 := Tryd.func41.trans (congrArg some (by kernel_rfl))
  f283 := Tryd.func44.trans (congrArg some (by kernel_rfl))
  f284 := Tryd.func45.trans (congrArg some (by kernel_rfl))
  f285 := Tryd.func46.trans (congrArg some (by kernel_rfl))
  f286 := Tryd.func47.trans (congrArg some (by kernel_rfl))
  f317 := Tryd.func48.trans (congrArg some (by kernel_rfl))
  f318 := Tryd.func50.trans (congrArg some (by kernel_rfl))
  f319 := Tryd.func51.trans (congrArg some (by kernel_rfl))
  f320 := Tryd.func52.trans (congrArg some (by kernel_rfl))
  f337 := Tryd.func53.trans (congrArg some (by kernel_rfl))
  f338 := Tryd.func54.trans (congrArg some (by kernel_rfl))
  t0 := Tryd.underlying0
  a0 := Tryd.isAgg0
  z0 := Tryd.sizeOf0
  v0 := Tryd.zeroValue0
  t2 := Tryd.underlying2
  a2 := Tryd.isAgg2
  z2 := Tryd.sizeOf2
  v2 := Tryd.zeroValue2
  t3 := Tryd.underlying3
  a3 := Tryd.isAgg3
  z3 := Tryd.sizeOf3
  v3 := Tryd.zeroValue3
  t4 := Tryd.underlying4
  a4 := Tryd.isAgg4
  z4 := Tryd.sizeOf4
  v4 := Tryd.zeroValue4
  t5 := Tryd.underlying5
  a5 := Tryd.isAgg5
  z5 := Tryd.sizeOf5
  v5 := Tryd.zeroValue5
  t9 := Tryd.underlying9
  a9 := Tryd.isAgg9
  z9 := Tryd.sizeOf9
  v9 := Tryd.zeroValue9
  t20 := Tryd.underlying20
  a20 := Tryd.isAgg20
  z20 := Tryd.sizeOf20
  v20 := Tryd.zeroValue20
  t37 := Tryd.underlying38
  a37 := Tryd.isAgg38
  z37 := Tryd.sizeOf38
  v37 := Tryd.zeroValue38
  t46 := Tryd.underlying73
  a46 := Tryd.isAgg73
  z46 := Tryd.sizeOf73
  v46 := Tryd.zeroValue73
  t51 := Tryd.underlying70
  a51 := Tryd.isAgg70
  z51 := Tryd.sizeOf70
  v51 := Tryd.zeroValue70
  t53 := Tryd.underlying64
  a53 := Tryd.isAgg64
  z53 := Tryd.sizeOf64
  v53 := Tryd.zeroValue64
  t171 := Tryd.underlying63
  a171 := Tryd.isAgg63
  z171 := Tryd.sizeOf63
  v171 := Tryd.zeroValue63
  t173 := Tryd.underlying67
  a173 := Tryd.isAgg67
  z173 := Tryd.sizeOf67
  v173 := Tryd.zeroValue67
  t212 := Tryd.underlying69
  a212 := Tryd.isAgg69
  z212 := Tryd.sizeOf69
  v212 := Tryd.zeroValue69
  t213 := Tryd.underlying71
  a213 := Tryd.isAgg71
  z213 := Tryd.sizeOf71
  t232 := Tryd.underlying76
  a232 := Tryd.isAgg76
  z232 := Tryd.sizeOf76
  v232 := Tryd.zeroValue76
  t233 := Tryd.underlying77
  a233 := Tryd.isAgg77
  z233 := Tryd.sizeOf77
  v233 := Tryd.zeroValue77
  g17 := by kernel_rfl
  g18 := by kernel_rfl
  g19 := by kernel_rfl
  i0 := by kernel_rfl
  i2 := by kernel_rfl
  i3 := by kernel_rfl
  i4 := by kernel_rfl
  i5 := by kernel_rfl
  i9 := by kernel_rfl
  i20 := by kernel_rfl
  i37 := by kernel_rfl
  i46 := by kernel_rfl
  i51 := by kernel_rfl
  i53 := by kernel_rfl
  i171 := by kernel_rfl
  i173 := by kernel_rfl
  i212 := by kernel_rfl
  i232 := by kernel_rfl
  i233 := by kernel_rfl
  m17 := by kernel_rfl
  m18 := by kernel_rfl
  m19 := by kernel_rfl }
open Go.RowKit Go.Sort Go.Lib in
/-- strconv.Itoa: "Itoa is equivalent to FormatInt(int64(i), 10).": i's DECIMAL NUMERAL ('Lib.itoa': a '-' where i is negative, then the digits), FOR EVERY int. The world behind the call: the world before it, new blocks behind the heap (the library's 'var a [24]byte'), draws. (LAID: no walk: one application.) -/
theorem Tryd.strconv_Itoa (n : Int) (h0 : -9223372036854775808 ≤ n) (h1 : n ≤ 9223372036854775807) (w : World) (htab : Lib.TabIs Tryd.prog w "internal/strconv.uint64pow10" .u64 Lib.pow10Tab) :
    Calls Tryd.prog 31 #[.int .i64 n] w fun e w' => e = .returned (.string ⟨(Lib.itoa n).toArray⟩) ∧ ∃ k os, w' = grow (w.drewN k) os := Any.strconv_Itoa Tryd.laysM171 n h0 h1 w htab
end Go.Proofs

open Go Go.Proofs.YtaoepnmhflmhhabDoorVe Go.Proofs.YtaoepnmhflmhhabDoorTv Go.Proofs
namespace Go.Proofs.YtaoepnmhflmhhabDoorTv
set_option maxRecDepth 8000
set_option maxHeartbeats 2000000
theorem tab_g : Tryd.prog.globalNamed "internal/strconv.uint64pow10" = some 1 := by kernel_rfl
theorem tab_is {w : World} (h : sideT w) : Lib.TabIs Tryd.prog w "internal/strconv.uint64pow10" .u64 Lib.pow10Tab := by
  unfold Lib.TabIs World.var?
  rw [tab_g]
  simp only [Option.bind_some]
  unfold sideT at h
  cases hh : w.heap[(1 : Nat)]? with
  | none => rw [hh] at h; exact h
  | some o => rw [hh] at h; cases o <;> exact h
def ito (n : Int) : ByteArray := ⟨(Lib.itoa n).toArray⟩
def joi (l : List ByteArray) (sep : ByteArray) : ByteArray := ⟨(Lib.join (l.map fun x => x.data.toList) sep.data.toList).toArray⟩
theorem Itoa (n : Int) (h0 : -9223372036854775808 ≤ n) (h1 : n ≤ 9223372036854775807) : ConS Tryd.prog 31 [.i n] (.s (ito n)) := by
  refine ⟨rfl, enters_of Tryd.func31 rfl rfl, fun m s avs _ _ _ hv => ?_⟩
  cases hv with
  | cons _ a _ ar ha hr =>
    cases hr
    obtain rfl := ha.int_inv
    refine callV_of_lib (enters_of Tryd.func31 rfl rfl) fun x vals hR hH hv => ?_
    cases hv with
    | cons _ _ v vs k1 k2 =>
      cases k2
      cases k1
      refine ⟨_, fun y => .str (ito n), ?_⟩
      refine (Tryd.strconv_Itoa n h0 h1 x.w (tab_is hR.side)).mono fun e w' ⟨he, k, os, hw⟩ => ⟨he, ?_⟩
      subst hw
      exact ⟨rfl, rfl, rfl, by simp [Sort.grow], fun i hi => by simp [Sort.grow, Array.getElem?_append, hi]⟩
theorem strs_sh {G : Nat → Nat → Prop} {H : Heap} : ∀ {l : List ByteArray} {ch : List (List AV)}, All2 (fun x c => Sh G H .str x c) l ch → ch.flatten = l.map AV.str
  | [], [], _ => rfl
  | x :: l, c :: ch, h => by
    have h1 : c = [.str x] := h.1
    subst h1
    simp [strs_sh h.2]
  | [], _ :: _, h => h.elim
  | _ :: _, [], h => h.elim
theorem vrl_strs {x : Cx} : ∀ {l : List ByteArray} {vs : List Value}, VRL x (l.map AV.str) vs → vs = l.map Value.string
  | [], _, h => by cases h; rfl
  | y :: l, _, h => by
    cases h with
    | cons _ _ v vs h1 h2 => cases h1; rw [vrl_strs h2]; rfl
theorem JoinL (l : List ByteArray) (sep : ByteArray) (hl : (joi l sep).size ≤ 140737488355328) : ConS Tryd.prog 24 [.val (.list .str) l, .s sep] (.s (joi l sep)) := by
  refine ⟨rfl, enters_of Tryd.func24 rfl rfl, fun m s avs _ _ _ hv => ?_⟩
  cases hv with
  | cons _ a _ ar ha hr =>
    cases hr with
    | cons _ b _ bs hb hr =>
      cases hr
      obtain rfl := hb.str_inv
      cases ha with
      | val _ _ _ hsh =>
        obtain ⟨a', ch, ea, hsl, hlen, hrow, hG, hmost, hall⟩ := hsh
        injection ea with ea _
        subst ea
        refine callV_of_lib (enters_of Tryd.func24 rfl rfl) fun x vals hR hH hv => ?_
        cases hv with
        | cons _ _ v vs k1 k2 =>
          cases k2 with
          | cons _ _ v2 vs2 k3 k4 =>
            cases k4
            cases k3
            have hc := strs_sh hall
            rw [hc] at hrow
            obtain ⟨A, cap, rfl, hcap, hcells⟩ := row_cells hR (xs := l.map AV.str) (by rw [hH]; exact hrow) hlen (by simp) (fun b hb => by rw [hb] at hsl; simp [isSl] at hsl) k1
            refine ⟨_, fun y => .str (joi l sep), ?_⟩
            by_cases hz : l = []
            · subst hz
              refine (Tryd.strings_Join_none A cap sep x.w).mono fun e w' ⟨he, hw⟩ => ⟨he, ?_⟩
              subst hw
              exact Go.RowKit.Below.refl _ _
            · obtain ⟨b, o, vs, rfl, hbs, hvl, hcell⟩ := hcells (fun h => hz (List.length_eq_zero_iff.1 h))
              obtain rfl := vrl_strs hvl
              refine (Tryd.strings_Join b o cap l sep x.w (fun j y hy => hcell j _ (by rw [List.getElem?_map, hy]; rfl)) hbs (by simp only [huge] at hmost; omega) hcap (by simpa [joi, ByteArray.size] using hl)).mono fun e w' ⟨he, hw⟩ => ⟨he, hw⟩
end Go.Proofs.YtaoepnmhflmhhabDoorTv
end
section
open Go Go.Proofs.YtaoepnmhflmhhabDoorVe Go.Proofs.YtaoepnmhflmhhabDoorTv Go.Proofs
namespace Go.Proofs.YtaoepnmhflmhhabDoorTv
set_option maxRecDepth 8000
set_option maxHeartbeats 2000000
theorem FormatIntI (n : Int) (h0 : -9223372036854775808 ≤ n) (h1 : n ≤ 9223372036854775807) : ConS Tryd.prog 23 [.i n] (.s (ito n)) := by
  refine conS_of hmix hTab Tryd.func23 rfl rfl (by kernel_rfl) (by show 1 ≤ Tryd.f23.ntmps; decide) rfl ?_
  refine stp ?_; try with_reducible exact True.intro
  refine useT ((Itoa n h0 h1).toT) ?_; try with_reducible exact True.intro
theorem JoinI (l : List ByteArray) (sep : ByteArray) (hl : (joi l sep).size ≤ 140737488355328) : ConS Tryd.prog 17 [.val (.list .str) l, .s sep] (.s (joi l sep)) := by
  refine conS_of hmix hTab Tryd.func17 rfl rfl (by kernel_rfl) (by show 2 ≤ Tryd.f17.ntmps; decide) rfl ?_
  refine stp ?_; try with_reducible exact True.intro
  refine useT ((JoinL l sep hl).toT) ?_; try with_reducible exact True.intro
def dd (u : Nat) : List UInt8 := if u = 0 then [] else Lib.decDigits u
theorem dd_step {u : Nat} (h : u ≠ 0) : dd u = dd (u / 10) ++ [UInt8.ofNat (48 + u % 10)] := by
  unfold dd
  rw [if_neg h, Lib.decDigits]
  by_cases hu : u < 10
  · rw [dif_pos hu, if_pos (by omega), Nat.mod_eq_of_lt hu]; rfl
  · rw [dif_neg hu, if_neg (by omega)]
theorem ito_size (n : Int) (h0 : -9223372036854775808 ≤ n) (h1 : n ≤ 9223372036854775807) : (ito n).size ≤ 21 := by
  have := Lib.itoa_length_le n h0 h1
  simpa [ito, ByteArray.size] using this
theorem ito_zero : ito 0 = ⟨#[48]⟩ := by
  have : Lib.itoa 0 = [48] := by
    unfold Lib.itoa
    rw [if_neg (by omega)]
    show Lib.decDigits 0 = _
    rw [Lib.decDigits, dif_pos (by omega)]; rfl
  unfold ito
  rw [this]
theorem ito_dd {n : Int} (hz : n ≠ 0) : (if n < 0 then [45] else []) ++ dd n.natAbs = Lib.itoa n := by
  simp only [Lib.itoa, dd, if_neg (show ¬ n.natAbs = 0 by omega)]
  split
  · rfl
  · rw [show n.toNat = n.natAbs by omega]; rfl
theorem u8w {e : Int} (h0 : 0 ≤ e) (h1 : e ≤ 9) : IntKind.u8.wrap (48 + e) = 48 + e := by
  simp [IntKind.wrap, IntKind.signed, IntKind.bits]; omega
theorem ba_data (a b : ByteArray) : (a ++ b).data.toList = a.data.toList ++ b.data.toList := by
  rw [ByteArray.data_append]; simp
theorem ba_ext {a : ByteArray} {l : List UInt8} (h : a.data.toList = l) : a = ⟨l.toArray⟩ := by
  subst h; cases a; rfl
theorem dd_put {u : Nat} (hu : u ≠ 0) (o : ByteArray) {w : Int} (hw : w = 48 + ((u % 10 : Nat) : Int)) : dd (u / 10) ++ (strOfNums [w] ++ o).data.toList = dd u ++ o.data.toList := by
  rw [ba_data, dd_step hu]
  subst hw
  have e : ((48 : Int) + ((u % 10 : Nat) : Int)).toNat = 48 + u % 10 := by omega
  show _ ++ ([UInt8.ofNat ((48 : Int) + ((u % 10 : Nat) : Int)).toNat] ++ _) = _
  rw [e, List.append_assoc]
theorem FormatIntS (n : Int) (h0 : -9223372036854775808 ≤ n) (h1 : n ≤ 9223372036854775807) : ConS Tryd.prog 20 [.i n] (.s (ito n)) := by
  have hsz := ito_size n h0 h1
  refine conS_of hmix hTab Tryd.func20 rfl rfl (by kernel_rfl) (by show 1 ≤ Tryd.f20.ntmps; decide) rfl ?_
  refine stp ?_; try with_reducible exact True.intro
  refine Br.mk (fun hz => ?_) (fun hz => ?_) <;> simp [-Int.ofNat_toNat] at hz
  · subst hz
    refine stp ?_; try with_reducible exact True.intro
    rw [ito_zero]
  have hd := ito_dd hz
  refine stp ?_; try with_reducible exact True.intro
  refine ⟨Int × ByteArray, fun p => dd p.1.natAbs ++ p.2.data.toList = dd n.natAbs ∧ -9223372036854775808 ≤ p.1 ∧ p.1 ≤ 9223372036854775807, fun p => p.1.natAbs, fun p => [(0, .i p.1), (3, .b (decide (n < 0))), (4, .s p.2)], fun p => [], ⟨(n, ByteArray.empty), (fitK [] []), by show dd n.natAbs ++ [] = _; simp, h0, h1⟩, fun ⟨q, o⟩ ⟨hi, hq0, hq1⟩ => ?_⟩
  dsimp only at hi hq0 hq1 ⊢
  have hol : o.size ≤ 21 := by
    have h2 := congrArg List.length (show (if n < 0 then [45] else []) ++ (dd q.natAbs ++ o.data.toList) = Lib.itoa n by rw [hi]; exact hd)
    simp only [List.length_append, Array.length_toList] at h2
    have h3 := Lib.itoa_length_le n h0 h1
    show o.data.size ≤ 21
    omega
  have dn : (q.tmod 10).natAbs = q.natAbs % 10 := Int.natAbs_tmod q 10
  have dq : (q.tdiv 10).natAbs = q.natAbs / 10 := Int.natAbs_tdiv q 10
  obtain ⟨d, hdd⟩ : ∃ d, q.tmod 10 = d := ⟨_, rfl⟩
  obtain ⟨q2, hqq⟩ : ∃ q2, q.tdiv 10 = q2 := ⟨_, rfl⟩
  have hm0 : -9 ≤ q.tmod 10 := by rw [hdd] at dn ⊢; omega
  have hm1 : q.tmod 10 ≤ 9 := by rw [hdd] at dn ⊢; omega
  refine stp ?_; try with_reducible exact True.intro
  refine Br.mk (fun h2 => ?_) (fun h2 => ?_) <;> simp [-Int.ofNat_toNat] at h2
  · refine stp ?_; try with_reducible exact True.intro
    refine Br.mk (fun h3 => ?_) (fun h3 => ?_) <;> simp [-Int.ofNat_toNat] at h3
    · refine stp ?_; try with_reducible exact True.intro
      have hw : IntKind.u8.wrap (48 + (0 - q.tmod 10)) = 48 + (0 - q.tmod 10) := u8w (by omega) (by omega)
      refine ⟨(show (1 : Nat) + o.size ≤ 140737488355328 by omega), ?_⟩
      refine stp ?_; try with_reducible exact True.intro
      refine ⟨(q.tdiv 10, strOfNums [IntKind.u8.wrap (48 + (0 - q.tmod 10))] ++ o), (fitK [] []), ⟨?_, ?_, ?_⟩, ?_⟩
      · rw [hw]; dsimp only; rw [dq, dd_put (by omega) o (by omega)]; exact hi
      · dsimp only; rw [hqq] at dq ⊢; omega
      · dsimp only; rw [hqq] at dq ⊢; omega
      · dsimp only; rw [dq]; omega
    · refine stp ?_; try with_reducible exact True.intro
      have hw : IntKind.u8.wrap (48 + q.tmod 10) = 48 + q.tmod 10 := u8w (by omega) (by omega)
      refine ⟨(show (1 : Nat) + o.size ≤ 140737488355328 by omega), ?_⟩
      refine stp ?_; try with_reducible exact True.intro
      refine ⟨(q.tdiv 10, strOfNums [IntKind.u8.wrap (48 + q.tmod 10)] ++ o), (fitK [] []), ⟨?_, ?_, ?_⟩, ?_⟩
      · rw [hw]; dsimp only; rw [dq, dd_put (by omega) o (by omega)]; exact hi
      · dsimp only; rw [hqq] at dq ⊢; omega
      · dsimp only; rw [hqq] at dq ⊢; omega
      · dsimp only; rw [dq]; omega
  · have hq : q = 0 := by omega
    subst hq
    have ho : (if n < 0 then [45] else []) ++ o.data.toList = Lib.itoa n := by
      rw [← hd, ← hi]; rfl
    refine stp ?_; try with_reducible exact True.intro
    refine Br.mk (fun h3 => ?_) (fun h3 => ?_) <;> simp [-Int.ofNat_toNat] at h3
    · rw [if_pos h3] at ho
      refine stp ?_; try with_reducible exact True.intro
      refine ⟨(show (1 : Nat) + o.size ≤ 140737488355328 by omega), ?_⟩
      refine stp ?_; try with_reducible exact True.intro
      refine congrArg (fun x => V.s x) (ba_ext ?_)
      rw [ba_data]; exact ho
    · rw [if_neg (by omega)] at ho
      refine stp ?_; try with_reducible exact True.intro
      exact congrArg (fun x => V.s x) (ba_ext ho)
def jb (l : List ByteArray) (sep : ByteArray) : Nat → List Int
  | 0 => []
  | i + 1 => jb l sep i ++ (if 0 < i then bys sep else []) ++ bys (l.getD i ByteArray.empty)
theorem jb_len (l : List ByteArray) (sep : ByteArray) : ∀ i j, (jb l sep i).length ≤ (jb l sep (i + j)).length
  | i, 0 => Nat.le_refl _
  | i, j + 1 => by
    have := jb_len l sep i j
    rw [← Nat.add_assoc, jb]
    simp only [List.length_append]
    omega
theorem num_bys (s : ByteArray) : (bys s).map (fun n => UInt8.ofNat n.toNat) = s.data.toList := by
  simp only [bys, List.map_map]
  conv => rhs; rw [← List.map_id s.data.toList]
  apply List.map_congr_left
  intro a _
  simp
theorem jb_join (l : List ByteArray) (sep : ByteArray) : ∀ i, i ≤ l.length → (jb l sep i).map (fun n => UInt8.ofNat n.toNat) = Lib.join ((l.take i).map fun x => x.data.toList) sep.data.toList
  | 0, _ => rfl
  | i + 1, h => by
    have hi := jb_join l sep i (by omega)
    have hl : l[i]? = some (l.getD i ByteArray.empty) := by simp [List.getD, List.getElem?_eq_getElem (show i < l.length by omega)]
    rw [jb, List.map_append, List.map_append, hi, num_bys, List.take_add_one, hl]
    generalize l.getD i ByteArray.empty = y at *
    simp only [Option.toList, List.map_append, List.map_cons, List.map_nil]
    cases i with
    | zero => simp [Lib.join, List.intercalate]
    | succ i =>
      rw [if_pos (by omega), num_bys]
      have hne : (l.take (i + 1)).map (fun x => x.data.toList) ≠ [] := by
        intro h2
        have := congrArg List.length h2
        simp only [List.length_map, List.length_take, List.length_nil] at this
        omega
      generalize (l.take (i + 1)).map (fun x => x.data.toList) = m at *
      cases m with
      | nil => exact absurd rfl hne
      | cons a m => rw [List.cons_append, Lib.join_cons, Lib.join_cons]; simp [Lib.joinTail]
theorem jb_joi (l : List ByteArray) (sep : ByteArray) : strOfNums (jb l sep l.length) = joi l sep := by
  unfold strOfNums joi
  rw [jb_join l sep _ (Nat.le_refl _), List.take_length]
theorem jb_size (l : List ByteArray) (sep : ByteArray) : (jb l sep l.length).length = (joi l sep).size := by
  rw [← jb_joi]; simp [strOfNums, ByteArray.size]
theorem bys_len (s : ByteArray) : (bys s).length = s.size := by simp only [bys, List.length_map, Array.length_toList]; rfl
theorem joi_le (l : List ByteArray) (sep : ByteArray) {b : Nat} (h : ∀ x ∈ l, x.size ≤ b) : (joi l sep).size ≤ l.length * (b + sep.size) := by
  rw [← jb_size]
  have key : ∀ i, i ≤ l.length → (jb l sep i).length ≤ i * (b + sep.size) := by
    intro i
    induction i with
    | zero => intro _; simp [jb]
    | succ i ih =>
      intro hi
      have h1 := ih (by omega)
      have h2 : (l.getD i ByteArray.empty).size ≤ b := by
        simp only [List.getD, List.getElem?_eq_getElem (show i < l.length by omega), Option.getD_some]
        exact h _ (List.getElem_mem _)
      have e1 : (bys (l.getD i ByteArray.empty)).length = (l.getD i ByteArray.empty).size := bys_len _
      have e2 : (bys sep).length = sep.size := bys_len _
      rw [jb, Nat.add_mul]
      simp only [List.length_append]
      split <;> simp only [e2, List.length_nil] <;> omega
  exact key _ (Nat.le_refl _)
theorem JoinS (l : List ByteArray) (sep : ByteArray) (hl : (joi l sep).size ≤ 268435456) (hn : (l.length : Int) ≤ 1048576) : ConS Tryd.prog 14 [.val (.list .str) l, .s sep] (.s (joi l sep)) := by
  have hj : ∀ i, i ≤ l.length → (jb l sep i).length ≤ 268435456 := fun i hi => by
    have := jb_len l sep i (l.length - i)
    rw [show i + (l.length - i) = l.length by omega, jb_size] at this
    omega
  refine conS_of hmix hTab Tryd.func14 rfl rfl (by kernel_rfl) (by show 2 ≤ Tryd.f14.ntmps; decide) rfl ?_
  refine stp ?_; try with_reducible exact True.intro
  refine ⟨Nat, fun i => i ≤ l.length, fun i => l.length - i, fun i => [(0, .val (.list .str) l), (1, .s sep), (5, .own 0 0 (jb l sep i).length), (6, .i i)], fun i => [.arr (.int .u8) (jb l sep i) true], ⟨0, (fitK [] [0]), Nat.zero_le _⟩, fun i hi => ?_⟩
  dsimp only at hi ⊢
  have hx : i < l.length → (jb l sep i).length + (if 0 < i then bys sep else []).length + (bys (rdT .str l (i : Int))).length ≤ 268435456 := fun h => by
    have := hj (i + 1) h
    rw [jb, List.length_append, List.length_append] at this
    exact this
  refine stp ?_; try with_reducible exact True.intro
  refine Br.mk (fun h1 => ?_) (fun h1 => ?_) <;> simp [-Int.ofNat_toNat] at h1
  · have hx := hx (by omega)
    refine stp ?_; try with_reducible exact True.intro
    refine Br.mk (fun h2 => ?_) (fun h2 => ?_) <;> simp [-Int.ofNat_toNat] at h2
    · rw [if_pos (by omega)] at hx
      refine stp ?_; try with_reducible exact True.intro
      have hu : jb l sep (i + 1) = jb l sep i ++ bys sep ++ bys (rdT .str l (i : Int)) := by
        rw [jb, if_pos (by omega)]; rfl
      refine ⟨i + 1, ⟨.frz [], [2], ⟨rfl, rfl, ?_, rfl, trivial⟩, ⟨?_, trivial⟩, by decide, rfl, rfl, rfl⟩, by first | ((try dsimp only); omega) | (simp; omega), by first | ((try dsimp only); omega) | (simp; omega)⟩ <;> rw [hu]
      · show V.own 2 0 _ = V.own 2 0 _
        congr 1
        simp; omega
      · refine congrArg (fun x => some (Obj.arr (.int .u8) x true)) ?_
        simp only [List.drop_zero, List.take_length]
        rw [List.take_of_length_le (by simp)]
    · rw [if_neg (by omega)] at hx
      have hu : jb l sep (i + 1) = jb l sep i ++ bys (rdT .str l (i : Int)) := by
        rw [jb, if_neg (by omega), List.append_nil]; rfl
      refine stp ?_; try with_reducible exact True.intro
      refine ⟨i + 1, ⟨.frz [], [1], ⟨rfl, rfl, ?_, rfl, trivial⟩, ⟨?_, trivial⟩, by decide, rfl, rfl, rfl⟩, by first | ((try dsimp only); omega) | (simp; omega), by first | ((try dsimp only); omega) | (simp; omega)⟩ <;> rw [hu]
      · show V.own 1 0 _ = V.own 1 0 _
        congr 1
        simp
      · refine congrArg (fun x => some (Obj.arr (.int .u8) x true)) ?_
        simp
  · obtain rfl : i = l.length := by omega
    refine stp ?_; try with_reducible exact True.intro
    rw [List.drop_zero, List.take_length, jb_joi]
def nt (l : List Int) : ByteArray := if l = [] then ⟨#[45]⟩ else joi (l.map ito) ⟨#[44]⟩
def In64 (l : List Int) : Prop := ∀ x ∈ l, -9223372036854775808 ≤ x ∧ x ≤ 9223372036854775807
theorem In64_of {l : List Int} (h : wfT (.list (.int .i64)) l) : In64 l := fun x hx => by
  have h1 : (Lit.int .i64 x).wf = true := h x hx
  simpa [Lit.wf, IntKind.min, IntKind.max, IntKind.signed, IntKind.bits] using h1
theorem In64_rd {l : List Int} (h : In64 l) (i : Int) : -9223372036854775808 ≤ rd l i ∧ rd l i ≤ 9223372036854775807 := by
  simp only [rd, List.getD]
  cases hx : l[i.toNat]? with
  | none => simp
  | some y => exact h y (List.mem_of_getElem? hx)
theorem nt_size {l : List Int} (h : In64 l) : (joi (l.map ito) ⟨#[44]⟩).size ≤ l.length * 22 := by
  have := joi_le (l.map ito) ⟨#[44]⟩ (b := 21) (fun x hx => by
    obtain ⟨y, hy, rfl⟩ := List.mem_map.1 hx
    exact ito_size y (h y hy).1 (h y hy).2)
  rw [List.length_map] at this
  exact this
theorem take_map_succ (l : List Int) {i : Nat} (h : i < l.length) : (l.map ito).take (i + 1) = (l.map ito).take i ++ [ito (rd l i)] := by
  rw [List.take_add_one, List.getElem?_map, List.getElem?_eq_getElem h]
  simp [rd, List.getD, List.getElem?_eq_getElem h]
theorem take_ito (l : List Int) : (l.map ito).take l.length = l.map ito := List.take_of_length_le (by simp)
theorem NumbersTextS (l : List Int) (hn : (l.length : Int) ≤ 1048576) (h : In64 l) : ConS Tryd.prog 13 [.il l] (.s (nt l)) := by
  have hsz := nt_size h
  refine conS_of hmix hTab Tryd.func13 rfl rfl (by kernel_rfl) (by show 1 ≤ Tryd.f13.ntmps; decide) rfl ?_
  refine stp ?_; try with_reducible exact True.intro
  refine Br.mk (fun hz => ?_) (fun hz => ?_) <;> simp [-Int.ofNat_toNat] at hz
  · refine stp ?_; try with_reducible exact True.intro
    rw [nt, if_pos hz]
  refine stp ?_; try with_reducible exact True.intro
  refine ⟨Nat, fun i => i ≤ l.length, fun i => l.length - i, fun i => [(0, .il l), (3, .own 0 0 i), (4, .i i)], fun i => [.arr .str ((l.map ito).take i) true], ⟨0, (fitK [] [0]), Nat.zero_le _⟩, fun i hi => ?_⟩
  dsimp only at hi ⊢
  have hr := In64_rd h i
  refine stp ?_; try with_reducible exact True.intro
  refine Br.mk (fun h1 => ?_) (fun h1 => ?_) <;> simp [-Int.ofNat_toNat] at h1
  · refine stp ?_; try with_reducible exact True.intro
    refine useT ((FormatIntS _ hr.1 hr.2).toT) ?_; try with_reducible exact True.intro
    refine ⟨i + 1, ⟨.frz [], [2], ⟨rfl, rfl, rfl, trivial⟩, ⟨?_, trivial⟩, by decide, rfl, rfl, rfl⟩, by first | ((try dsimp only); omega) | (simp; omega), by first | ((try dsimp only); omega) | (simp; omega)⟩
    rw [take_map_succ l (by omega)]
    refine congrArg (fun x => some (Obj.arr .str x true)) ?_
    simp [rd, List.take_take]
  · obtain rfl : i = l.length := by omega
    rw [take_ito]
    refine stp ?_; try with_reducible exact True.intro
    refine useT ((JoinS (l.map ito) ⟨#[44]⟩ (by omega) (by rw [List.length_map]; exact hn)).toT) ?_; try with_reducible exact True.intro
    rw [nt, if_neg hz]
theorem NumbersTextI (l : List Int) (hn : (l.length : Int) ≤ 1048576) (h : In64 l) : ConS Tryd.prog 16 [.il l] (.s (nt l)) := by
  have hsz := nt_size h
  refine conS_of hmix hTab Tryd.func16 rfl rfl (by kernel_rfl) (by show 1 ≤ Tryd.f16.ntmps; decide) rfl ?_
  refine stp ?_; try with_reducible exact True.intro
  refine Br.mk (fun hz => ?_) (fun hz => ?_) <;> simp [-Int.ofNat_toNat] at hz
  · refine stp ?_; try with_reducible exact True.intro
    rw [nt, if_pos hz]
  refine stp ?_; try with_reducible exact True.intro
  refine ⟨Nat, fun i => i ≤ l.length, fun i => l.length - i, fun i => [(3, .own 0 0 i), (10, .il l), (11, .i l.length), (12, .i i)], fun i => [.arr .str ((l.map ito).take i) true], ⟨0, (fitK [] [0]), Nat.zero_le _⟩, fun i hi => ?_⟩
  dsimp only at hi ⊢
  have hr := In64_rd h i
  refine stp ?_; try with_reducible exact True.intro
  refine Br.mk (fun h1 => ?_) (fun h1 => ?_) <;> simp [-Int.ofNat_toNat] at h1
  · refine stp ?_; try with_reducible exact True.intro
    refine useT ((FormatIntI _ hr.1 hr.2).toT) ?_; try with_reducible exact True.intro
    refine ⟨i + 1, ⟨.frz [], [2], ⟨rfl, rfl, rfl, rfl, trivial⟩, ⟨?_, trivial⟩, by decide, rfl, rfl, rfl⟩, by first | ((try dsimp only); omega) | (simp; omega), by first | ((try dsimp only); omega) | (simp; omega)⟩
    rw [take_map_succ l (by omega)]
    refine congrArg (fun x => some (Obj.arr .str x true)) ?_
    simp [rd, List.take_take]
  · obtain rfl : i = l.length := by omega
    rw [take_ito]
    refine stp ?_; try with_reducible exact True.intro
    refine useT ((JoinI (l.map ito) ⟨#[44]⟩ (by omega)).toT) ?_; try with_reducible exact True.intro
    rw [nt, if_neg hz]
end Go.Proofs.YtaoepnmhflmhhabDoorTv
end
section
open Go Go.Proofs.YtaoepnmhflmhhabDoorVe Go.Proofs.YtaoepnmhflmhhabDoorTv Go.Proofs
namespace Go.Proofs.YtaoepnmhflmhhabDoorTv
set_option maxRecDepth 8000
set_option maxHeartbeats 2000000
def sumN : List Nat → Nat
  | [] => 0
  | x :: l => x + sumN l
theorem szSS_sum {ll : List (List Int)} {left : Int} (h : 0 ≤ szSS ll left) : ((ll.length + sumN (ll.map List.length) : Nat) : Int) ≤ left := by
  unfold szSS at h
  split at h
  · omega
  · rename_i h1
    have : ∀ (l : List (List Int)) (lf : Int), 0 ≤ lf → 0 ≤ szR l lf → (sumN (l.map List.length) : Int) ≤ lf := by
      intro l
      induction l with
      | nil => intro lf h _; simpa [sumN] using h
      | cons r l ih =>
        intro lf h0 h2
        unfold szR at h2
        split at h2
        · omega
        · rename_i h3
          have h4 : szS r lf = lf - r.length := by
            unfold szS at h3 ⊢
            split
            · rename_i h5; simp [h5] at h3
            · rfl
          have := ih _ (by omega) h2
          simp only [List.map_cons, sumN]
          omega
    have := this ll _ (by omega) h
    omega
theorem joi_sum (l : List ByteArray) (sep : ByteArray) : (joi l sep).size ≤ sumN (l.map fun x => x.size + sep.size) := by
  rw [← jb_size]
  have key : ∀ i, i ≤ l.length → (jb l sep i).length + sumN ((l.drop i).map fun x => x.size + sep.size) ≤ sumN (l.map fun x => x.size + sep.size) := by
    intro i
    induction i with
    | zero => intro _; simp [jb]
    | succ i ih =>
      intro hi
      have h1 := ih (by omega)
      have e1 : (bys (l.getD i ByteArray.empty)).length = (l.getD i ByteArray.empty).size := bys_len _
      have e2 : (bys sep).length = sep.size := bys_len _
      have e3 : l.drop i = l.getD i ByteArray.empty :: l.drop (i + 1) := by
        rw [List.drop_eq_getElem_cons (by omega)]
        simp [List.getD, List.getElem?_eq_getElem (show i < l.length by omega)]
      rw [e3] at h1
      simp only [List.map_cons, sumN] at h1
      rw [jb]
      simp only [List.length_append]
      split <;> simp only [e2, List.length_nil] <;> omega
  have := key l.length (Nat.le_refl _)
  omega
def lt (ll : List (List Int)) : ByteArray := if ll = [] then ⟨#[45]⟩ else joi (ll.map nt) ⟨#[32]⟩
def In64s (ll : List (List Int)) : Prop := ∀ l ∈ ll, In64 l
theorem In64s_of {ll : List (List Int)} (h : wfT (.list (.list (.int .i64))) ll) : In64s ll := fun l hl => In64_of (h l hl)
theorem nt_len {l : List Int} (h : In64 l) : (nt l).size ≤ l.length * 22 + 1 := by
  unfold nt
  split
  · rename_i e; subst e; decide
  · exact Nat.le_succ_of_le (nt_size h)
theorem lt_size {ll : List (List Int)} (h : In64s ll) (hn : ll.length + sumN (ll.map List.length) ≤ 1048576) : (joi (ll.map nt) ⟨#[32]⟩).size ≤ 268435456 := by
  refine Nat.le_trans (joi_sum _ _) ?_
  have key : ∀ m : List (List Int), In64s m → sumN ((m.map nt).map fun x => x.size + (⟨#[32]⟩ : ByteArray).size) ≤ 22 * sumN (m.map List.length) + 2 * m.length := by
    intro m
    induction m with
    | nil => intro _; exact Nat.le_refl _
    | cons x m ih =>
      intro hm
      have h1 := ih fun l hl => hm l (by simp [hl])
      have h2 := nt_len (hm x (by simp))
      have h3 : (⟨#[32]⟩ : ByteArray).size = 1 := rfl
      simp only [List.map_cons, sumN, List.length_cons] at h1 ⊢
      omega
  have := key ll h
  omega
theorem take_nt (ll : List (List Int)) : (ll.map nt).take ll.length = ll.map nt := List.take_of_length_le (by simp)
theorem take_nt_succ (ll : List (List Int)) {i : Nat} (h : i < ll.length) : (ll.map nt).take (i + 1) = (ll.map nt).take i ++ [nt (rdR ll i)] := by
  rw [List.take_add_one, List.getElem?_map, List.getElem?_eq_getElem h]
  simp [rdR, List.getD, List.getElem?_eq_getElem h]
theorem In64s_rd {ll : List (List Int)} (h : In64s ll) (i : Int) : In64 (rdR ll i) := by
  simp only [rdR, List.getD]
  cases hx : ll[i.toNat]? with
  | none => intro x hx2; simp at hx2
  | some y => exact h y (List.mem_of_getElem? hx)
theorem ListsTextS (ll : List (List Int)) (hn : ll.length + sumN (ll.map List.length) ≤ 1048576) (hr : ∀ r ∈ ll, (r.length : Int) ≤ 1048576) (h : In64s ll) : ConS Tryd.prog 6 [.ill ll] (.s (lt ll)) := by
  have hsz := lt_size h hn
  refine conS_of hmix hTab Tryd.func6 rfl rfl (by kernel_rfl) (by show 1 ≤ Tryd.f6.ntmps; decide) rfl ?_
  refine stp ?_; try with_reducible exact True.intro
  refine Br.mk (fun hz => ?_) (fun hz => ?_) <;> simp [-Int.ofNat_toNat] at hz
  · refine stp ?_; try with_reducible exact True.intro
    rw [lt, if_pos hz]
  refine stp ?_; try with_reducible exact True.intro
  refine ⟨Nat, fun i => i ≤ ll.length, fun i => ll.length - i, fun i => [(0, .ill ll), (3, .own 0 0 i), (4, .i i)], fun i => [.arr .str ((ll.map nt).take i) true], ⟨0, (fitK [] [0]), Nat.zero_le _⟩, fun i hi => ?_⟩
  dsimp only at hi ⊢
  have hrd := In64s_rd h i
  refine stp ?_; try with_reducible exact True.intro
  refine Br.mk (fun h1 => ?_) (fun h1 => ?_) <;> simp [-Int.ofNat_toNat] at h1
  · have hmem : rdR ll i ∈ ll := by simp [rdR, show i < ll.length by omega]
    refine stp ?_; try with_reducible exact True.intro
    refine useT ((NumbersTextS (rdR ll i) (hr _ hmem) hrd).toT) ?_; try with_reducible exact True.intro
    refine ⟨i + 1, ⟨.frz [], [2], ⟨rfl, rfl, rfl, trivial⟩, ⟨?_, trivial⟩, by decide, rfl, rfl, rfl⟩, by first | ((try dsimp only); omega) | (simp; omega), by first | ((try dsimp only); omega) | (simp; omega)⟩
    rw [take_nt_succ ll (by omega)]
    refine congrArg (fun x => some (Obj.arr .str x true)) ?_
    simp [List.take_take]
  · obtain rfl : i = ll.length := by omega
    rw [take_nt]
    refine stp ?_; try with_reducible exact True.intro
    refine useT ((JoinS (ll.map nt) ⟨#[32]⟩ (by omega) (by rw [List.length_map]; omega)).toT) ?_; try with_reducible exact True.intro
    rw [lt, if_neg hz]
theorem ListsTextI (ll : List (List Int)) (hn : ll.length + sumN (ll.map List.length) ≤ 1048576) (hr : ∀ r ∈ ll, (r.length : Int) ≤ 1048576) (h : In64s ll) : ConS Tryd.prog 8 [.ill ll] (.s (lt ll)) := by
  have hsz := lt_size h hn
  refine conS_of hmix hTab Tryd.func8 rfl rfl (by kernel_rfl) (by show 1 ≤ Tryd.f8.ntmps; decide) rfl ?_
  refine stp ?_; try with_reducible exact True.intro
  refine Br.mk (fun hz => ?_) (fun hz => ?_) <;> simp [-Int.ofNat_toNat] at hz
  · refine stp ?_; try with_reducible exact True.intro
    rw [lt, if_pos hz]
  refine stp ?_; try with_reducible exact True.intro
  refine ⟨Nat, fun i => i ≤ ll.length, fun i => ll.length - i, fun i => [(3, .own 0 0 i), (10, .ill ll), (11, .i ll.length), (12, .i i)], fun i => [.arr .str ((ll.map nt).take i) true], ⟨0, (fitK [] [0]), Nat.zero_le _⟩, fun i hi => ?_⟩
  dsimp only at hi ⊢
  have hrd := In64s_rd h i
  refine stp ?_; try with_reducible exact True.intro
  refine Br.mk (fun h1 => ?_) (fun h1 => ?_) <;> simp [-Int.ofNat_toNat] at h1
  · have hmem : rdR ll i ∈ ll := by simp [rdR, show i < ll.length by omega]
    refine stp ?_; try with_reducible exact True.intro
    refine useT ((NumbersTextI (rdR ll i) (hr _ hmem) hrd).toT) ?_; try with_reducible exact True.intro
    refine ⟨i + 1, ⟨.frz [], [2], ⟨rfl, rfl, rfl, rfl, trivial⟩, ⟨?_, trivial⟩, by decide, rfl, rfl, rfl⟩, by first | ((try dsimp only); omega) | (simp; omega), by first | ((try dsimp only); omega) | (simp; omega)⟩
    rw [take_nt_succ ll (by omega)]
    refine congrArg (fun x => some (Obj.arr .str x true)) ?_
    simp [List.take_take]
  · obtain rfl : i = ll.length := by omega
    rw [take_nt]
    refine stp ?_; try with_reducible exact True.intro
    refine useT ((JoinI (ll.map nt) ⟨#[32]⟩ (by omega)).toT) ?_; try with_reducible exact True.intro
    rw [lt, if_neg hz]
theorem FnExactListsText (ll : List (List Int)) (hl : (ll.length : Int) ≤ 140737488355328) (hr : ∀ r ∈ ll, (r.length : Int) ≤ 140737488355328) (h : In64s ll) : ConS Tryd.prog 3 [.ill ll] (.b true) := by
  refine conS_of hmix hTab Tryd.func3 rfl rfl (by kernel_rfl) (by show 1 ≤ Tryd.f3.ntmps; decide) rfl ?_
  refine stp ?_; try with_reducible exact True.intro
  refine useT ((szIntSS ll 1048576 (by decide) hl hr).toT) ?_; try with_reducible exact True.intro
  refine Br.mk (fun h1 => ?_) (fun h1 => ?_) <;> simp [-Int.ofNat_toNat] at h1
  · refine stp ?_; try with_reducible exact True.intro
  obtain ⟨h2, h3⟩ := szSS_facts (Int.le_refl _) h1
  have h5 := szSS_sum h1
  have h4 : ∀ r ∈ ll, (r.length : Int) ≤ 274877906944 := fun r hr => by have := h3 r hr; omega
  refine stp ?_; try with_reducible exact True.intro
  refine useT (toIntSS ll h2 h3) ?_; try with_reducible exact True.intro
  refine useT ((ListsTextS ll (by omega) h3 h).toT) ?_; try with_reducible exact True.intro
  refine useT (toIntSS ll h2 h3) ?_; try with_reducible exact True.intro
  refine useT ((ListsTextI ll (by omega) h3 h).toT) ?_; try with_reducible exact True.intro
  rw [show (!(lt ll).toList == (lt ll).toList) = false by simp]
  refine stp ?_; try with_reducible exact True.intro
  refine useT (toIntSS ll h2 h3) ?_; try with_reducible exact True.intro
  refine useT ((eqIntSS ll ll (by omega) h4).toT) ?_; try with_reducible exact True.intro
  rw [decide_eq_true rfl]
  refine stp ?_; try with_reducible exact True.intro
end Go.Proofs.YtaoepnmhflmhhabDoorTv
end
