/- What functions of the program give: each contract holds for all arguments that its own sentence names. -/
import Derived.Test.YtlglchbkenaekaaTv4
import Derived.Test.YtlglchbkenaekaaProg
set_option linter.unusedVariables false
set_option linter.unusedSimpArgs false
section
open Go Go.Proofs.YtlglchbkenaekaaVe Go.Proofs.YtlglchbkenaekaaTv Go.Proofs
namespace Go.Proofs.YtlglchbkenaekaaTv
set_option maxRecDepth 8000
set_option maxHeartbeats 2000000
def tab : List (Nat × TE) := [(1, ⟨.fnil, .other, 8⟩), (3, ⟨.int .i64, .int .i64, 8⟩), (4, ⟨.bool, .bool, 1⟩), (5, ⟨.int .u8, .int .u8, 1⟩), (9, ⟨.str, .str, 16⟩), (22, ⟨.list (.list (.int .i64)), .sl 27, 24⟩), (23, ⟨.fnil, .other, 8⟩), (24, ⟨.fnil, .other, 8⟩), (25, ⟨.fnil, .other, 8⟩), (26, ⟨.fnil, .other, 8⟩), (27, ⟨.list (.int .i64), .sl 3, 24⟩), (28, ⟨.fnil, .other, 8⟩), (29, ⟨.fnil, .other, 8⟩), (30, ⟨.fnil, .other, 8⟩), (32, ⟨.fnil, .other, 8⟩), (33, ⟨.fnil, .other, 8⟩), (34, ⟨.fnil, .other, 8⟩), (35, ⟨.fnil, .other, 8⟩), (36, ⟨.fnil, .other, 8⟩), (37, ⟨.list (.list (.list (.int .i64))), .sl 22, 24⟩), (38, ⟨.fnil, .other, 8⟩), (39, ⟨.fnil, .other, 8⟩), (40, ⟨.fnil, .other, 8⟩), (41, ⟨.fnil, .other, 8⟩), (42, ⟨.fnil, .other, 8⟩), (43, ⟨.fnil, .other, 8⟩), (44, ⟨.list (.int .u8), .sl 5, 24⟩), (45, ⟨.fnil, .other, 8⟩), (46, ⟨.fnil, .other, 8⟩), (48, ⟨.fnil, .other, 8⟩), (49, ⟨.fnil, .other, 8⟩), (50, ⟨.fnil, .other, 8⟩), (51, ⟨.fnil, .other, 8⟩), (52, ⟨.fnil, .other, 8⟩), (53, ⟨.fnil, .other, 8⟩), (55, ⟨.fnil, .other, 8⟩), (56, ⟨.fnil, .other, 8⟩), (57, ⟨.fnil, .other, 8⟩), (58, ⟨.fnil, .other, 8⟩), (59, ⟨.pair (.int .i64) (.pair (.int .i64) (.unit)), .arr 2 3, 16⟩), (60, ⟨.list (.pair (.int .i64) (.pair (.int .i64) (.unit))), .sl 59, 24⟩), (61, ⟨.fnil, .other, 8⟩), (62, ⟨.fnil, .other, 8⟩), (63, ⟨.fnil, .other, 8⟩), (64, ⟨.fnil, .other, 8⟩), (65, ⟨.fnil, .other, 8⟩), (66, ⟨.fnil, .other, 8⟩), (67, ⟨.fnil, .other, 8⟩), (69, ⟨.fnil, .other, 8⟩), (70, ⟨.fnil, .other, 8⟩), (71, ⟨.fnil, .other, 8⟩), (73, ⟨.fnil, .other, 8⟩), (74, ⟨.fnil, .other, 8⟩), (76, ⟨.fnil, .other, 8⟩), (77, ⟨.list (.str), .sl 9, 24⟩), (78, ⟨.fnil, .other, 8⟩), (79, ⟨.fnil, .other, 8⟩), (80, ⟨.fnil, .other, 8⟩), (81, ⟨.fnil, .other, 8⟩), (82, ⟨.list (.bool), .sl 4, 24⟩), (83, ⟨.fnil, .other, 8⟩), (84, ⟨.pair (.list (.int .i64)) (.unit), .st [(0, 1)], 24⟩), (85, ⟨.pair (.list (.int .i64)) (.unit), .st [(0, 1)], 24⟩), (86, ⟨.fnil, .other, 8⟩), (87, ⟨.fnil, .other, 8⟩), (88, ⟨.fnil, .other, 8⟩), (89, ⟨.fnil, .other, 8⟩), (90, ⟨.fnil, .other, 8⟩), (93, ⟨.fnil, .other, 8⟩), (94, ⟨.int .u64, .int .u64, 8⟩), (96, ⟨.fnil, .other, 8⟩), (105, ⟨.fnil, .other, 8⟩)]
theorem hmix : Try.prog.follows .mixedOrders = true := by kernel_rfl
theorem hTab : TabOk Try.prog tab := fun t e h => by
  refine tabAll_ok (l := tab) ?_ t e h
  refine ⟨⟨by kernel_rfl, trivial⟩, ⟨by kernel_rfl, rfl⟩, ⟨by kernel_rfl, trivial⟩, ⟨by kernel_rfl, rfl⟩, ⟨by kernel_rfl, trivial⟩, ⟨by kernel_rfl, _, rfl, rfl, by decide, by decide, by decide⟩, ⟨by kernel_rfl, trivial⟩, ⟨by kernel_rfl, trivial⟩, ⟨by kernel_rfl, trivial⟩, ⟨by kernel_rfl, trivial⟩, ⟨by kernel_rfl, _, rfl, rfl, by decide, by decide, by decide⟩, ⟨by kernel_rfl, trivial⟩, ⟨by kernel_rfl, trivial⟩, ⟨by kernel_rfl, trivial⟩, ⟨by kernel_rfl, trivial⟩, ⟨by kernel_rfl, trivial⟩, ⟨by kernel_rfl, trivial⟩, ⟨by kernel_rfl, trivial⟩, ⟨by kernel_rfl, trivial⟩, ⟨by kernel_rfl, _, rfl, rfl, by decide, by decide, by decide⟩, ⟨by kernel_rfl, trivial⟩, ⟨by kernel_rfl, trivial⟩, ⟨by kernel_rfl, trivial⟩, ⟨by kernel_rfl, trivial⟩, ⟨by kernel_rfl, trivial⟩, ⟨by kernel_rfl, trivial⟩, ⟨by kernel_rfl, _, rfl, rfl, by decide, by decide, by decide⟩, ⟨by kernel_rfl, trivial⟩, ⟨by kernel_rfl, trivial⟩, ⟨by kernel_rfl, trivial⟩, ⟨by kernel_rfl, trivial⟩, ⟨by kernel_rfl, trivial⟩, ⟨by kernel_rfl, trivial⟩, ⟨by kernel_rfl, trivial⟩, ⟨by kernel_rfl, trivial⟩, ⟨by kernel_rfl, trivial⟩, ⟨by kernel_rfl, trivial⟩, ⟨by kernel_rfl, trivial⟩, ⟨by kernel_rfl, trivial⟩, ⟨by kernel_rfl, trivial⟩, ⟨by kernel_rfl, _, rfl, rfl, by decide, by decide, by decide⟩, ⟨by kernel_rfl, trivial⟩, ⟨by kernel_rfl, trivial⟩, ⟨by kernel_rfl, trivial⟩, ⟨by kernel_rfl, trivial⟩, ⟨by kernel_rfl, trivial⟩, ⟨by kernel_rfl, trivial⟩, ⟨by kernel_rfl, trivial⟩, ⟨by kernel_rfl, trivial⟩, ⟨by kernel_rfl, trivial⟩, ⟨by kernel_rfl, trivial⟩, ⟨by kernel_rfl, trivial⟩, ⟨by kernel_rfl, trivial⟩, ⟨by kernel_rfl, trivial⟩, ⟨by kernel_rfl, _, rfl, rfl, by decide, by decide, by decide⟩, ⟨by kernel_rfl, trivial⟩, ⟨by kernel_rfl, trivial⟩, ⟨by kernel_rfl, trivial⟩, ⟨by kernel_rfl, trivial⟩, ⟨by kernel_rfl, _, rfl, rfl, by decide, by decide, by decide⟩, ⟨by kernel_rfl, trivial⟩, ⟨by kernel_rfl, trivial⟩, ⟨by kernel_rfl, trivial⟩, ⟨by kernel_rfl, trivial⟩, ⟨by kernel_rfl, trivial⟩, ⟨by kernel_rfl, trivial⟩, ⟨by kernel_rfl, trivial⟩, ⟨by kernel_rfl, trivial⟩, ⟨by kernel_rfl, trivial⟩, ⟨by kernel_rfl, rfl⟩, ⟨by kernel_rfl, trivial⟩, ⟨by kernel_rfl, trivial⟩, trivial⟩
theorem l1In (a lo hi : Int) : ConS Try.prog 56 [.i a, .i lo, .i hi] (.b (decide (lo ≤ a ∧ a ≤ hi))) := by
  refine conS_of hmix hTab Try.func56 rfl rfl (by kernel_rfl) (by show 3 ≤ Try.f56.ntmps; decide) rfl ?_
  refine stp ?_; try with_reducible exact True.intro
  refine Br.mk (fun h => ?_) (fun h => ?_)
  all_goals refine stp ?_; try with_reducible exact True.intro
  all_goals (simp at h; simp [h])
  omega
theorem within (a lo hi : Int) : ConS Try.prog 59 [.i a, .i lo, .i hi] (.b (decide (lo ≤ a ∧ a ≤ hi))) := by
  refine conS_of hmix hTab Try.func59 rfl rfl (by kernel_rfl) (by show 3 ≤ Try.f59.ntmps; decide) rfl ?_
  refine stp ?_; try with_reducible exact True.intro
  refine Br.mk (fun h => ?_) (fun h => ?_)
  all_goals refine stp ?_; try with_reducible exact True.intro
  all_goals (simp at h; simp [h])
  omega
theorem l1Bit (b : Bool) : ConS Try.prog 93 [.b b] (.i (if b = true then 1 else 0)) := by
  refine conS_of hmix hTab Try.func93 rfl rfl (by kernel_rfl) (by show 1 ≤ Try.f93.ntmps; decide) rfl ?_
  refine stp ?_; try with_reducible exact True.intro
  refine Br.mk (fun h => ?_) (fun h => ?_)
  all_goals refine stp ?_; try with_reducible exact True.intro
  all_goals simp [h, constV]
theorem toIntS (l : List Int) (hl : (l.length : Int) ≤ 1048576) : ConT Try.prog 58 [.il l] (.own 0 0 l.length) [.arr (.int .i64) l true] := by
  refine conT_of hmix hTab Try.func58 rfl rfl (by kernel_rfl) (by show 1 ≤ Try.f58.ntmps; decide) ?_
  refine stp ?_; try with_reducible exact True.intro
  refine ⟨Nat, fun i => i ≤ l.length, fun i => l.length - i, fun i => [(0, .il l), (3, .own 0 0 l.length), (4, .i i)], fun i => [.arr (.int .i64) (l.take i ++ List.replicate (l.length - i) 0) true], ⟨0, ⟨.frz [], [0], ⟨rfl, rfl, rfl, trivial⟩, ⟨rfl, trivial⟩, by decide, rfl, rfl, rfl⟩, Nat.zero_le _⟩, fun i hi => ?_⟩
  refine stp ?_; try with_reducible exact True.intro
  refine Br.mk (fun h => ?_) (fun h => ?_) <;> simp at h
  · refine stp ?_; try with_reducible exact True.intro
    refine ⟨i + 1, ⟨.frz [], [0], ⟨rfl, rfl, rfl, trivial⟩, ⟨?_, trivial⟩, by decide, rfl, rfl, rfl⟩, h, by dsimp only; omega⟩
    refine congrArg (fun x => some (Obj.arr (.int .i64) x true)) ?_
    have := fill_step id l (0 : Int) rfl (rd_get (l := l) (i := (i : Int)) (by simpa using h))
    simpa using this
  · refine stp ?_; try with_reducible exact True.intro
    obtain rfl : i = l.length := Nat.le_antisymm hi h
    exact ⟨.frz [], [0], ⟨rfl, trivial⟩, ⟨by simp [Obj.ren, frzI], trivial⟩, by decide, rfl, rfl, rfl⟩
end Go.Proofs.YtlglchbkenaekaaTv
end
section
open Go Go.Proofs.YtlglchbkenaekaaVe Go.Proofs.YtlglchbkenaekaaTv Go.Proofs
namespace Go.Proofs.YtlglchbkenaekaaTv
set_option maxRecDepth 8000
set_option maxHeartbeats 2000000
/-- A law's own checks: rows that are equal. -/
theorem ConS.toT {P : Program} {f : Nat} {args : List V} {rs : V} (h : ConS P f args rs) : ConT P f args rs [] := by
  obtain ⟨h1, h2, h3⟩ := h
  refine ⟨h2, fun m s avs hno hs hS hv => (h3 m s avs hno hs hS hv).mono fun av H' ⟨e1, e2⟩ => ⟨m, e2.symm, hS, Kp.refl m [], Fr.refl m s, ?_⟩⟩
  rw [e1]; exact scal_vt m [] rs h1
theorem eqIntS (l m : List Int) (hl : (l.length : Int) ≤ 274877906944) : ConS Try.prog 19 [.il l, .il m] (.b (decide (l = m))) := by
  refine conS_of hmix hTab Try.func19 rfl rfl (by kernel_rfl) (by show 2 ≤ Try.f19.ntmps; decide) rfl ?_
  refine stp ?_; try with_reducible exact True.intro
  refine Br.mk (fun h => ?_) (fun h => ?_) <;> simp at h
  · refine stp ?_; try with_reducible exact True.intro
    have : l ≠ m := fun e => h (by rw [e])
    simp [this]
  · refine stp ?_; try with_reducible exact True.intro
    refine ⟨Nat, fun i => i ≤ l.length ∧ ∀ k, k < i → rd l k = rd m k, fun i => l.length - i, fun i => [(0, .il l), (1, .il m), (5, .i i)], fun i => [], ⟨0, ⟨.frz [], [], ⟨rfl, rfl, rfl, trivial⟩, trivial, by decide, rfl, rfl, rfl⟩, by simp⟩, fun i ⟨hi, hk⟩ => ?_⟩
    refine stp ?_; try with_reducible exact True.intro
    refine Br.mk (fun h1 => ?_) (fun h1 => ?_) <;> simp at h1
    · refine stp ?_; try with_reducible exact True.intro
      refine Br.mk (fun h2 => ?_) (fun h2 => ?_) <;> simp at h2
      · refine stp ?_; try with_reducible exact True.intro
        have : l ≠ m := fun e => h2 (by rw [e])
        simp [this]
      · refine stp ?_; try with_reducible exact True.intro
        refine ⟨i + 1, ⟨.frz [], [], ⟨rfl, rfl, rfl, trivial⟩, trivial, by decide, rfl, rfl, rfl⟩, ⟨h1, fun k hk1 => ?_⟩, by dsimp only; omega⟩
        by_cases e : k = i
        · rw [e]; exact h2
        · exact hk k (by omega)
    · refine stp ?_; try with_reducible exact True.intro
      have : l = m := by
        refine List.ext_getElem (by omega) fun k h2 h3 => ?_
        have := hk k (by omega)
        simpa [rd, h2, h3] using this
      simp [this]
end Go.Proofs.YtlglchbkenaekaaTv
end
section
open Go Go.Proofs.YtlglchbkenaekaaVe Go.Proofs.YtlglchbkenaekaaTv Go.Proofs
namespace Go.Proofs.YtlglchbkenaekaaTv
set_option maxRecDepth 8000
set_option maxHeartbeats 2000000
theorem rd_own (l : List Int) (x : Int) : rd l ((x.toNat : Nat) : Int) = rd l x := rfl
def szS (l : List Int) (left : Int) : Int := if left - l.length < 0 then -1 else left - l.length
theorem szIntS (l : List Int) (left : Int) (h : 0 ≤ left ∧ left ≤ 1048576) (hl : (l.length : Int) ≤ 140737488355328) : ConS Try.prog 55 [.il l, .i left] (.i (szS l left)) := by
  refine conS_of hmix hTab Try.func55 rfl rfl (by kernel_rfl) (by show 2 ≤ Try.f55.ntmps; decide) rfl ?_
  unfold szS
  refine stp ?_; try with_reducible exact True.intro
  refine Br.mk (fun h => ?_) (fun h => ?_) <;> simp [-Int.ofNat_toNat] at h
  · refine stp ?_; try with_reducible exact True.intro
    rw [if_pos h]
  · refine stp ?_; try with_reducible exact True.intro
    rw [if_neg (by omega)]
def szR : List (List Int) → Int → Int
  | [], left => left
  | r :: rs, left => if szS r left < 0 then -1 else szR rs (szS r left)
def szSS (ll : List (List Int)) (left : Int) : Int := if left - ll.length < 0 then -1 else szR ll (left - ll.length)
theorem drop_consR {l : List (List Int)} {i : Nat} (h : i < l.length) : l.drop i = rdR l i :: l.drop (i + 1) := by
  rw [List.drop_eq_getElem_cons h]
  simp [rdR, h]
theorem szIntSS (ll : List (List Int)) (left : Int) (h : 0 ≤ left ∧ left ≤ 1048576) (hl : (ll.length : Int) ≤ 140737488355328) (hr : ∀ r ∈ ll, (r.length : Int) ≤ 140737488355328) : ConS Try.prog 12 [.ill ll, .i left] (.i (szSS ll left)) := by
  refine conS_of hmix hTab Try.func12 rfl rfl (by kernel_rfl) (by show 2 ≤ Try.f12.ntmps; decide) rfl ?_
  unfold szSS
  refine stp ?_; try with_reducible exact True.intro
  refine Br.mk (fun h1 => ?_) (fun h1 => ?_) <;> simp [-Int.ofNat_toNat] at h1
  · refine stp ?_; try with_reducible exact True.intro
    rw [if_pos h1]
  · rw [if_neg (by omega)]
    refine stp ?_; try with_reducible exact True.intro
    refine ⟨Nat × Int, fun a => a.1 ≤ ll.length ∧ 0 ≤ a.2 ∧ a.2 ≤ 1048576 ∧ szR (ll.drop a.1) a.2 = szR ll (left - ll.length), fun a => ll.length - a.1, fun a => [(0, .ill ll), (1, .i a.2), (5, .i a.1)], fun a => [], ⟨(0, left - ll.length), (fitK [] []), by simp; omega⟩, fun ⟨i, lf⟩ ⟨hi, h0, h2, hc⟩ => ?_⟩
    dsimp only at hi h0 h2 hc ⊢
    refine stp ?_; try with_reducible exact True.intro
    refine Br.mk (fun h3 => ?_) (fun h3 => ?_) <;> simp [-Int.ofNat_toNat] at h3
    · have hmem : rdR ll i ∈ ll := by simp [rdR, h3]
      rw [drop_consR h3, szR] at hc
      refine stp ?_; try with_reducible exact True.intro
      refine useT ((szIntS (rdR ll i) lf ⟨h0, h2⟩ (hr _ hmem)).toT) ?_; try with_reducible exact True.intro
      refine Br.mk (fun h4 => ?_) (fun h4 => ?_) <;> simp [-Int.ofNat_toNat] at h4
      · rw [if_pos h4] at hc
        refine stp ?_; try with_reducible exact True.intro
        rw [← hc]
      · rw [if_neg (by omega)] at hc
        refine stp ?_; try with_reducible exact True.intro
        refine ⟨(i + 1, szS (rdR ll i) lf), (fitK [] []), ⟨h3, h4, ?_, hc⟩, by first | ((try dsimp only); omega) | (simp; omega)⟩
        dsimp only
        unfold szS
        split <;> omega
    · refine stp ?_; try with_reducible exact True.intro
      obtain rfl : i = ll.length := by omega
      simp [szR] at hc
      rw [← hc]
theorem szSS_facts {ll : List (List Int)} {left : Int} (hb : left ≤ 1048576) (h : 0 ≤ szSS ll left) : (ll.length : Int) ≤ 1048576 ∧ ∀ r ∈ ll, (r.length : Int) ≤ 1048576 := by
  unfold szSS at h
  split at h
  · omega
  · rename_i h1
    refine ⟨by omega, ?_⟩
    have : ∀ (l : List (List Int)) (lf : Int), 0 ≤ lf → lf ≤ 1048576 → 0 ≤ szR l lf → ∀ r ∈ l, (r.length : Int) ≤ 1048576 := by
      intro l
      induction l with
      | nil => simp
      | cons r l ih =>
        intro lf h0 h1 h2 x hx
        unfold szR at h2
        split at h2
        · omega
        · rename_i h3
          have h4 : szS r lf = lf - r.length := by
            unfold szS at h3 ⊢
            split
            · rename_i h5; simp [h5] at h3
            · rfl
          rcases List.mem_cons.1 hx with rfl | hx
          · omega
          · exact ih _ (by omega) (by omega) h2 x hx
    exact this ll _ (by omega) (by omega) h
theorem szSS_le {ll : List (List Int)} {left : Int} (hb : left ≤ 1048576) : szSS ll left ≤ 1048576 := by
  unfold szSS
  split
  · omega
  · have : ∀ (l : List (List Int)) (lf : Int), lf ≤ 1048576 → szR l lf ≤ 1048576 := by
      intro l
      induction l with
      | nil => exact fun lf h => h
      | cons r l ih =>
        intro lf h
        unfold szR
        split
        · omega
        · refine ih _ ?_
          unfold szS
          split <;> omega
    exact this _ _ (by omega)
theorem toIntSS (ll : List (List Int)) (hl : (ll.length : Int) ≤ 1048576) (hr : ∀ r ∈ ll, (r.length : Int) ≤ 1048576) : ConT Try.prog 14 [.ill ll] (.own 0 0 ll.length) [.arr (.list (.int .i64)) ll true] := by
  refine conT_of hmix hTab Try.func14 rfl rfl (by kernel_rfl) (by show 1 ≤ Try.f14.ntmps; decide) ?_
  refine stp ?_; try with_reducible exact True.intro
  refine ⟨Nat, fun i => i ≤ ll.length, fun i => ll.length - i, fun i => [(0, .ill ll), (3, .own 0 0 ll.length), (4, .i i)], fun i => [.arr (.list (.int .i64)) (ll.take i ++ List.replicate (ll.length - i) []) true], ⟨0, (fitK [] [0]), Nat.zero_le _⟩, fun i hi => ?_⟩
  dsimp only at hi
  refine stp ?_; try with_reducible exact True.intro
  refine Br.mk (fun h => ?_) (fun h => ?_) <;> simp [-Int.ofNat_toNat] at h
  · have hmem : rdR ll i ∈ ll := by simp [rdR, h]
    refine stp ?_; try with_reducible exact True.intro
    refine useT (toIntS (rdR ll i) (hr _ hmem)) ?_; try with_reducible exact True.intro
    refine ⟨_, _, _, _, rfl, rfl, rfl, by decide, rfl, by first | omega | (simp; done) | (simp; omega), ?_⟩; refine stp ?_; try with_reducible exact True.intro
    refine ⟨i + 1, ⟨.frz [], [0], by repeat (first | exact trivial | refine ⟨by first | rfl | (simp [Obj.ren, frzI, -Int.ofNat_toNat]; done) | (simp [Obj.ren, frzI, V.ren, V.rens, V.cells, EnvV.ev, EnvV.upd, mkE, backL, backN, -Int.ofNat_toNat]; done) | (simp [Obj.ren, frzI, -Int.ofNat_toNat]; omega), ?_⟩), ⟨?_, trivial⟩, by decide, rfl, rfl, rfl⟩, h, by first | ((try dsimp only); omega) | (simp; omega)⟩
    refine congrArg (fun x => some (Obj.arr (.list (.int .i64)) x true)) ?_
    have h2 : ll[i]? = some (rdR ll i) := by simp [rdR, h]
    have := fill_step id ll ([] : List Int) rfl h2
    simpa using this
  · refine stp ?_; try with_reducible exact True.intro
    obtain rfl : i = ll.length := Nat.le_antisymm hi h
    exact (fitK [] [0])
theorem eqIntSS (l m : List (List Int)) (hl : (l.length : Int) ≤ 274877906944) (hr : ∀ r ∈ l, (r.length : Int) ≤ 274877906944) : ConS Try.prog 16 [.ill l, .ill m] (.b (decide (l = m))) := by
  refine conS_of hmix hTab Try.func16 rfl rfl (by kernel_rfl) (by show 2 ≤ Try.f16.ntmps; decide) rfl ?_
  refine stp ?_; try with_reducible exact True.intro
  refine Br.mk (fun h => ?_) (fun h => ?_) <;> simp at h
  · refine stp ?_; try with_reducible exact True.intro
    have : l ≠ m := fun e => h (by rw [e])
    simp [this]
  · refine stp ?_; try with_reducible exact True.intro
    refine ⟨Nat, fun i => i ≤ l.length ∧ ∀ k, k < i → rdR l k = rdR m k, fun i => l.length - i, fun i => [(0, .ill l), (1, .ill m), (5, .i i)], fun i => [], ⟨0, (fitK [] []), by simp⟩, fun i ⟨hi, hk⟩ => ?_⟩
    dsimp only at hi hk ⊢
    refine stp ?_; try with_reducible exact True.intro
    refine Br.mk (fun h1 => ?_) (fun h1 => ?_) <;> simp [-Int.ofNat_toNat] at h1
    · have hmem : rdR l i ∈ l := by simp [rdR, h1]
      refine stp ?_; try with_reducible exact True.intro
      refine useT ((eqIntS (rdR l i) (rdR m i) (hr _ hmem)).toT) ?_; try with_reducible exact True.intro
      refine Br.mk (fun h2 => ?_) (fun h2 => ?_) <;> simp at h2
      · refine stp ?_; try with_reducible exact True.intro
        have : l ≠ m := fun e => h2 (by rw [e])
        simp [this]
      · refine stp ?_; try with_reducible exact True.intro
        refine ⟨i + 1, (fitK [] []), ⟨h1, fun k hk1 => ?_⟩, by first | ((try dsimp only); omega) | (simp; omega)⟩
        by_cases e : k = i
        · rw [e]; exact h2
        · exact hk k (by omega)
    · refine stp ?_; try with_reducible exact True.intro
      have : l = m := by
        refine List.ext_getElem (by omega) fun k h2 h3 => ?_
        have := hk k (by omega)
        simpa [rdR, h2, h3] using this
      simp [this]
end Go.Proofs.YtlglchbkenaekaaTv
end
section
open Go Go.Proofs.YtlglchbkenaekaaVe Go.Proofs.YtlglchbkenaekaaTv Go.Proofs
namespace Go.Proofs.YtlglchbkenaekaaTv
set_option maxRecDepth 8000
set_option maxHeartbeats 2000000
theorem l3Find {n : Nat} {up : List Int} {f : Int → Int} (hF : Fo n up f) (x : Int) (hx : InR n x) : ConS Try.prog 92 [.il up, .i x] (.i (f x)) := by
  refine conS_of hmix hTab Try.func92 rfl rfl (by kernel_rfl) (by show 2 ≤ Try.f92.ntmps; decide) rfl ?_
  have hlen := hF.len
  obtain ⟨d0, hd0⟩ := hF.path x hx
  refine stp ?_; try with_reducible exact True.intro
  refine ⟨Nat × Int, fun a => InR n a.2 ∧ itr up a.1 a.2 = f x, fun a => a.1, fun a => [(0, .il up), (1, .i a.2)], fun a => [], ⟨(d0, x), (fitK [] []), hx, hd0⟩, fun ⟨d, y⟩ ⟨hy, hd⟩ => ?_⟩
  dsimp only at hy hd ⊢
  have hy1 := hy.1
  have hy2 : y < (up.length : Int) := by rw [hlen]; exact hy.2
  refine stp ?_; try with_reducible exact True.intro
  refine Br.mk (fun h => ?_) (fun h => ?_) <;> simp [-Int.ofNat_toNat] at h
  · refine stp ?_; try with_reducible exact True.intro
    cases d with
    | zero => exact absurd (by have h := hF.fix x hx; simp only [itr] at hd; rw [hd]; exact h) h
    | succ d => exact ⟨(d, rd up y), (fitK [] []), ⟨hF.inn y hy, hd⟩, by first | ((try dsimp only); omega) | (simp; omega)⟩
  · refine stp ?_; try with_reducible exact True.intro
    rw [← hd, itr_fix h d]
/-- The joins of the first k rows, but for the one that is skipped. -/
def jl (skip : Int) (ll : List (List Int)) : Nat → Int → Int
  | 0 => id
  | k + 1 => if (k : Int) = skip then jl skip ll k else joinF (jl skip ll k) (rd (rdR ll k) 0) (rd (rdR ll k) 1)
/-- Rows of two numbers below n. -/
def Ends (n : Nat) (ll : List (List Int)) : Prop := ∀ k : Nat, k < ll.length → (rdR ll k).length = 2 ∧ InR n (rd (rdR ll k) 0) ∧ InR n (rd (rdR ll k) 1)
theorem ints_succ (i : Nat) : ints (i + 1) = ints i ++ [(i : Int)] := by simp [ints, List.range_succ]
@[simp] theorem ints_len (i : Nat) : (ints i).length = i := by simp [ints]
theorem roots_succ (f : Int → Int) (i : Nat) : (rootsOf (i + 1) f).length = (rootsOf i f).length + if f i = i then 1 else 0 := by
  unfold rootsOf
  rw [ints_succ, List.filter_append, List.length_append]
  by_cases h : f i = i <;> simp [h]
theorem roots_len (f : Int → Int) (i : Nat) : (rootsOf i f).length ≤ i := by
  have := List.length_filter_le (fun x => f x == x) (ints i)
  rw [ints_len] at this
  exact this
theorem l19Joined (n : Nat) (ll : List (List Int)) (skip : Int) (hn : n ≤ 100000) (hll : (ll.length : Int) ≤ 1048576) (hE : Ends n ll) : ConS Try.prog 57 [.i n, .ill ll, .i skip] (.b (decide ((rootsOf n (jl skip ll ll.length)).length = 1))) := by
  refine conS_of hmix hTab Try.func57 rfl rfl (by kernel_rfl) (by show 3 ≤ Try.f57.ntmps; decide) rfl ?_
  refine stp ?_; try with_reducible exact True.intro
  refine ⟨Nat, fun i => i ≤ n, fun i => n - i, fun i => [(0, .i n), (1, .ill ll), (2, .i skip), (7, .own 0 0 i), (8, .i i)], fun i => [.arr (.int .i64) (ints i) true], ⟨0, (fitK [] [0]), Nat.zero_le _⟩, fun i hi => ?_⟩
  dsimp only at hi ⊢
  refine stp ?_; try with_reducible exact True.intro
  refine Br.mk (fun h => ?_) (fun h => ?_) <;> simp [-Int.ofNat_toNat] at h
  · refine stp ?_; try with_reducible exact True.intro
    exact ⟨i + 1, ⟨.frz [], [2], ⟨rfl, rfl, rfl, rfl, rfl, trivial⟩, ⟨by simp [Obj.ren, frzI, ints_succ, List.take_of_length_le], trivial⟩, by decide, rfl, rfl, rfl⟩, by first | ((try dsimp only); omega) | (simp; omega), by first | ((try dsimp only); omega) | (simp; omega)⟩
  · refine stp ?_; try with_reducible exact True.intro
    obtain rfl : i = n := by omega
    refine ⟨Nat × List Int, fun a => a.1 ≤ ll.length ∧ Fo i a.2 (jl skip ll a.1), fun a => ll.length - a.1, fun a => [(0, .i i), (1, .ill ll), (2, .i skip), (7, .own 0 0 i), (9, .i a.1)], fun a => [.arr (.int .i64) a.2 true], ⟨(0, ints i), (fitK [] [0]), Nat.zero_le _, Fo.init i⟩, fun ⟨k, up⟩ ⟨hk, hF⟩ => ?_⟩
    dsimp only at hk hF ⊢
    have hlen := hF.len
    refine stp ?_; try with_reducible exact True.intro
    refine Br.mk (fun h1 => ?_) (fun h1 => ?_) <;> simp [-Int.ofNat_toNat] at h1
    · obtain ⟨e1, e2, e3⟩ := hE k h1
      have e1' : List.length (rdT (.list (.int .i64)) ll (k : Int)) = 2 := e1
      refine stp ?_; try with_reducible exact True.intro
      refine Br.mk (fun h2 => ?_) (fun h2 => ?_) <;> simp [-Int.ofNat_toNat] at h2
      · have hj : jl skip ll (k + 1) = joinF (jl skip ll k) (rd (rdR ll k) 0) (rd (rdR ll k) 1) := by rw [jl, if_neg h2]
        have hg0 := hF.rng _ e2
        have hg1 := hg0.1
        have hg2 : jl skip ll k (rd (rdR ll k) 0) < (up.length : Int) := by rw [hlen]; exact hg0.2
        refine stp ?_; try with_reducible exact True.intro
        refine .inl ⟨_, _, l3Find hF _ e2, by repeat (first | exact trivial | refine ⟨by first | exact rfl | exact trivial | exact ⟨_, rfl, rfl⟩ | exact ⟨_, _, rfl, by first | (simp; done) | (simp; omega), by first | (simp; done) | (simp [List.take_of_length_le]; done) | (rw [List.drop_zero]; exact List.take_of_length_le (by first | omega | (simp; omega))) | (simp [List.take_of_length_le]; omega)⟩ | exact ⟨_, rfl, by first | (simp; done) | (simp; omega), by first | (simp; done) | (simp [List.take_of_length_le]; done) | (rw [List.drop_zero]; exact List.take_of_length_le (by first | omega | (simp; omega))) | (simp [List.take_of_length_le]; omega)⟩, ?_⟩), ?_⟩; refine stp ?_; try with_reducible exact True.intro
        refine .inl ⟨_, _, l3Find hF _ e3, by repeat (first | exact trivial | refine ⟨by first | exact rfl | exact trivial | exact ⟨_, rfl, rfl⟩ | exact ⟨_, _, rfl, by first | (simp; done) | (simp; omega), by first | (simp; done) | (simp [List.take_of_length_le]; done) | (rw [List.drop_zero]; exact List.take_of_length_le (by first | omega | (simp; omega))) | (simp [List.take_of_length_le]; omega)⟩ | exact ⟨_, rfl, by first | (simp; done) | (simp; omega), by first | (simp; done) | (simp [List.take_of_length_le]; done) | (rw [List.drop_zero]; exact List.take_of_length_le (by first | omega | (simp; omega))) | (simp [List.take_of_length_le]; omega)⟩, ?_⟩), ?_⟩; refine stp ?_; try with_reducible exact True.intro
        exact ⟨(k + 1, up.set (jl skip ll k (rd (rdR ll k) 0)).toNat (jl skip ll k (rd (rdR ll k) 1))), (fitK [] [0]), ⟨h1, by rw [hj]; exact hF.join e2 e3⟩, by first | ((try dsimp only); omega) | (simp; omega)⟩
      · have hj : jl skip ll (k + 1) = jl skip ll k := by rw [jl, if_pos h2]
        refine stp ?_; try with_reducible exact True.intro
        exact ⟨(k + 1, up), (fitK [] [0]), ⟨h1, by rw [hj]; exact hF⟩, by first | ((try dsimp only); omega) | (simp; omega)⟩
    · refine stp ?_; try with_reducible exact True.intro
      obtain rfl : k = ll.length := by omega
      generalize hg : jl skip ll ll.length = f at *
      refine ⟨Nat, fun k => k ≤ i, fun k => i - k, fun k => [(0, .i i), (7, .own 0 0 i), (10, .i (rootsOf k f).length), (11, .i k)], fun k => [.arr (.int .i64) up true], ⟨0, (fitK [] [0]), Nat.zero_le _⟩, fun k hk => ?_⟩
      dsimp only at hk ⊢
      have hrl := roots_len f k
      refine stp ?_; try with_reducible exact True.intro
      refine Br.mk (fun h3 => ?_) (fun h3 => ?_) <;> simp [-Int.ofNat_toNat] at h3
      · refine stp ?_; try with_reducible exact True.intro
        refine useT ((l1Bit _).toT) ?_; try with_reducible exact True.intro
        have hr := hF.root (x := k) ⟨by omega, by omega⟩
        have hs := roots_succ f k
        have e4 : (((k : Int).toNat : Nat) : Int) = k := by omega
        refine ⟨k + 1, ⟨.frz [], [0], ⟨rfl, rfl, ?_, rfl, trivial⟩, ⟨rfl, trivial⟩, by decide, rfl, rfl, rfl⟩, by first | ((try dsimp only); omega) | (simp; omega), by first | ((try dsimp only); omega) | (simp; omega)⟩
        show V.i (((rootsOf k f).length : Int) + (if decide (rd up (((k : Int).toNat : Nat) : Int) = (k : Int)) = true then 1 else 0)) = V.i ((rootsOf (k + 1) f).length : Int)
        rw [e4, hs]
        by_cases c : f k = k
        · rw [if_pos c, if_pos (by simpa using hr.2 c)]; simp
        · rw [if_neg c, if_neg (by simpa using fun h => c (hr.1 h))]; simp
      · refine stp ?_; try with_reducible exact True.intro
        obtain rfl : k = i := by omega
        have e5 : (((rootsOf k f).length : Nat) : Int) = 1 ↔ (rootsOf k f).length = 1 := by omega
        simp only [e5]
end Go.Proofs.YtlglchbkenaekaaTv
end
section
open Go Go.Proofs.YtlglchbkenaekaaVe Go.Proofs.YtlglchbkenaekaaTv Go.Proofs
namespace Go.Proofs.YtlglchbkenaekaaTv
set_option maxRecDepth 8000
set_option maxHeartbeats 2000000
/-- The joiner: a struct that holds its list. -/
@[simp] def sJ (up : List Int) : List Obj := [.vars [.own 1 0 up.length], .arr (.int .i64) up true]
def sJ0 : Nat → List Obj
  | 0 => [.vars [.nil (.int .i64)]]
  | i + 1 => sJ (ints (i + 1))
theorem newJoiner (n : Nat) (hn : 1 ≤ n ∧ n ≤ 100000) : ConT Try.prog 60 [.i n] (.pcell 0 0) (sJ (ints n)) := by
  refine conT_of hmix hTab Try.func60 rfl rfl (by kernel_rfl) (by show 1 ≤ Try.f60.ntmps; decide) ?_
  refine stp ?_; try with_reducible exact True.intro
  refine ⟨Nat, fun i => i ≤ n, fun i => n - i, fun i => [(3, .pcell 0 0), (7, .i n), (8, .i i)], sJ0, ⟨0, (fitK [] [0]), Nat.zero_le _⟩, fun i hi => ?_⟩
  dsimp only at hi ⊢
  cases i with
  | zero =>
    refine stp ?_; try with_reducible exact True.intro
    refine Br.mk (fun h => ?_) (fun h => ?_) <;> simp [-Int.ofNat_toNat] at h
    · refine stp ?_; try with_reducible exact True.intro
      intro _
      refine stp ?_; try with_reducible exact True.intro
      exact ⟨1, (fitK [] [0, 2]), by first | ((try dsimp only); omega) | (simp; omega), by first | ((try dsimp only); omega) | (simp; omega)⟩
    · omega
  | succ i =>
    refine stp ?_; try with_reducible exact True.intro
    refine Br.mk (fun h => ?_) (fun h => ?_) <;> simp [-Int.ofNat_toNat] at h
    · refine stp ?_; try with_reducible exact True.intro
      exact ⟨i + 1 + 1, ⟨.frz [], [0, 3], ⟨rfl, rfl, rfl, trivial⟩, ⟨by simp [Obj.ren, frzI, ints_succ, V.rens, V.ren, V.cells, EnvV.ev, EnvV.upd, mkE], by simp [Obj.ren, frzI, ints_succ, List.take_of_length_le], trivial⟩, by decide, rfl, rfl, rfl⟩, by first | ((try dsimp only); omega) | (simp; omega), by first | ((try dsimp only); omega) | (simp; omega)⟩
    · refine stp ?_; try with_reducible exact True.intro
      obtain rfl : n = i + 1 := by omega
      exact (fitK [] [0, 1])
theorem top {n : Nat} {up : List Int} {f : Int → Int} (hF : Fo n up f) (x : Int) (hx : InR n x) : ConI Try.prog 94 [.pcell 0 0, .i x] (sJ up) (.i (f x)) (sJ up) := by
  refine conI_of hmix hTab Try.func94 rfl rfl (by kernel_rfl) (by show 2 ≤ Try.f94.ntmps; decide) ?_
  have hlen := hF.len
  obtain ⟨d0, hd0⟩ := hF.path x hx
  refine stp ?_; try with_reducible exact True.intro
  refine ⟨Nat × Int, fun a => InR n a.2 ∧ itr up a.1 a.2 = f x, fun a => a.1, fun a => [(0, .pcell 0 0), (1, .i a.2)], fun a => sJ up, ⟨(d0, x), (fitK [] [0, 1]), hx, hd0⟩, fun ⟨d, y⟩ ⟨hy, hd⟩ => ?_⟩
  dsimp only at hy hd ⊢
  have hy1 := hy.1
  have hy2 : y < (up.length : Int) := by rw [hlen]; exact hy.2
  refine stp ?_; try with_reducible exact True.intro
  refine Br.mk (fun h => ?_) (fun h => ?_) <;> simp [-Int.ofNat_toNat] at h
  · refine stp ?_; try with_reducible exact True.intro
    cases d with
    | zero => exact absurd (by have h := hF.fix x hx; simp only [itr] at hd; rw [hd]; exact h) h
    | succ d => exact ⟨(d, rd up y), (fitK [] [0, 1]), ⟨hF.inn y hy, hd⟩, by first | ((try dsimp only); omega) | (simp; omega)⟩
  · refine stp ?_; try with_reducible exact True.intro
    rw [← hd, itr_fix h d]
    exact (fitK [] [0, 1])
theorem join {n : Nat} {up : List Int} {f : Int → Int} (hF : Fo n up f) (a b : Int) (ha : InR n a) (hb : InR n b) : ∃ up' f', Fo n up' f' ∧ (∀ g, Ker n f g → Ker n f' (joinF g a b)) ∧ ConI Try.prog 61 [.pcell 0 0, .i a, .i b] (sJ up) (.tup []) (sJ up') := by
  have hlen := hF.len
  have ra := hF.rng a ha
  have rb := hF.rng b hb
  have ra1 := ra.1
  have ra2 : f a < (up.length : Int) := by rw [hlen]; exact ra.2
  have rb1 := rb.1
  have rb2 : f b < (up.length : Int) := by rw [hlen]; exact rb.2
  by_cases hc : f a > f b
  · refine ⟨up.set (f a).toNat (f b), joinF f a b, hF.join ha hb, fun g hg => hg.join ha hb, ?_⟩
    refine conI_of hmix hTab Try.func61 rfl rfl (by kernel_rfl) (by show 3 ≤ Try.f61.ntmps; decide) ?_
    refine stp ?_; try with_reducible exact True.intro
    refine useI [0, 1] (top hF a ha) ?_; try with_reducible exact True.intro
    refine useI [0, 1] (top hF b hb) ?_; try with_reducible exact True.intro
    refine brT (by simpa using hc) ?_
    refine stp ?_; try with_reducible exact True.intro
    exact (fitK [] [0, 1])
  · refine ⟨up.set (f b).toNat (f a), joinF f b a, hF.join hb ha, fun g hg => hg.joinR hb ha, ?_⟩
    refine conI_of hmix hTab Try.func61 rfl rfl (by kernel_rfl) (by show 3 ≤ Try.f61.ntmps; decide) ?_
    refine stp ?_; try with_reducible exact True.intro
    refine useI [0, 1] (top hF a ha) ?_; try with_reducible exact True.intro
    refine useI [0, 1] (top hF b hb) ?_; try with_reducible exact True.intro
    refine brF (by simpa using hc) ?_
    refine stp ?_; try with_reducible exact True.intro
    exact (fitK [] [0, 1])
theorem count {n : Nat} {up : List Int} {f : Int → Int} (hF : Fo n up f) (hn : n ≤ 100000) : ConI Try.prog 62 [.pcell 0 0] (sJ up) (.i (rootsOf n f).length) (sJ up) := by
  refine conI_of hmix hTab Try.func62 rfl rfl (by kernel_rfl) (by show 1 ≤ Try.f62.ntmps; decide) ?_
  obtain rfl := hF.len
  refine stp ?_; try with_reducible exact True.intro
  refine ⟨Nat, fun k => k ≤ up.length, fun k => up.length - k, fun k => [(3, .i (rootsOf k f).length), (9, .own 1 0 up.length), (10, .i up.length), (11, .i k)], fun k => sJ up, ⟨0, (fitK [] [0, 1]), Nat.zero_le _⟩, fun k hk => ?_⟩
  dsimp only at hk ⊢
  have hrl := roots_len f k
  have hs := roots_succ f k
  refine stp ?_; try with_reducible exact True.intro
  refine Br.mk (fun h => ?_) (fun h => ?_) <;> simp [-Int.ofNat_toNat] at h
  · have hr := hF.root (x := k) ⟨by omega, by omega⟩
    refine stp ?_; try with_reducible exact True.intro
    refine Br.mk (fun h2 => ?_) (fun h2 => ?_) <;> simp [-Int.ofNat_toNat] at h2
    · have h3 := hr.1 h2.symm
      rw [if_pos h3] at hs
      refine stp ?_; try with_reducible exact True.intro
      exact ⟨k + 1, ⟨.frz [], [0, 1], ⟨by rw [hs]; rfl, rfl, rfl, rfl, trivial⟩, ⟨rfl, rfl, trivial⟩, by decide, rfl, rfl, rfl⟩, by first | ((try dsimp only); omega) | (simp; omega), by first | ((try dsimp only); omega) | (simp; omega)⟩
    · have h3 : ¬ f k = k := fun c => h2 (hr.2 c).symm
      rw [if_neg h3] at hs
      refine stp ?_; try with_reducible exact True.intro
      exact ⟨k + 1, ⟨.frz [], [0, 1], ⟨by rw [hs]; rfl, rfl, rfl, rfl, trivial⟩, ⟨rfl, rfl, trivial⟩, by decide, rfl, rfl, rfl⟩, by first | ((try dsimp only); omega) | (simp; omega), by first | ((try dsimp only); omega) | (simp; omega)⟩
  · refine stp ?_; try with_reducible exact True.intro
    obtain rfl : k = up.length := by omega
    exact (fitK [] [0, 1])
end Go.Proofs.YtlglchbkenaekaaTv
end
section
open Go Go.Proofs.YtlglchbkenaekaaVe Go.Proofs.YtlglchbkenaekaaTv Go.Proofs
namespace Go.Proofs.YtlglchbkenaekaaTv
set_option maxRecDepth 8000
set_option maxHeartbeats 2000000
def rowOk (n : Int) (e : List Int) : Bool := decide (e.length = 2) && (decide (0 ≤ rd e 0) && (decide (rd e 0 ≤ rd e 1) && decide (rd e 1 < n)))
def bump (c : List Int) (i : Int) : List Int := c.set i.toNat (rd c i + 1)
def bumpE (c e : List Int) : List Int := bump (bump c (rd e 0)) (rd e 1)
def cnt (n : Nat) (ll : List (List Int)) (k : Nat) : List Int := (ll.take k).foldl bumpE (List.replicate n 0)
theorem cnt_succ {n : Nat} {ll : List (List Int)} {k : Nat} (h : k < ll.length) : cnt n ll (k + 1) = bumpE (cnt n ll k) (rdR ll k) := by
  unfold cnt
  rw [List.take_add_one, List.foldl_append]
  simp [rdR, h]
@[simp] theorem cnt_length (n : Nat) (ll : List (List Int)) (k : Nat) : (cnt n ll k).length = n := by
  have : ∀ (l : List (List Int)) (c : List Int), (l.foldl bumpE c).length = c.length := by
    intro l
    induction l with
    | nil => intro c; rfl
    | cons e l ih => intro c; rw [List.foldl_cons, ih]; simp [bumpE, bump]
  unfold cnt
  rw [this]; simp
theorem rd_bump {c : List Int} {i j : Int} (hi : 0 ≤ i ∧ i < c.length) (hj : 0 ≤ j) : rd (bump c i) j = if j = i then rd c i + 1 else rd c j := rd_set hi.1 hj hi.2
theorem cnt_bound {n : Nat} {ll : List (List Int)} : ∀ (k : Nat), k ≤ ll.length → (∀ j : Nat, j < k → rowOk n (rdR ll j) = true) → ∀ i : Int, 0 ≤ i → 0 ≤ rd (cnt n ll k) i ∧ rd (cnt n ll k) i ≤ 2 * k := by
  intro k
  induction k with
  | zero =>
    intro _ _ i hi
    simp only [cnt, List.take_zero, List.foldl_nil, rd, List.getD_eq_getElem?_getD, List.getElem?_replicate]
    split <;> simp
  | succ k ih =>
    intro hk hr i hi
    have h1 := ih (by omega) (fun j hj => hr j (by omega))
    have h2 := hr k (by omega)
    simp only [rowOk, Bool.and_eq_true, decide_eq_true_eq] at h2
    rw [cnt_succ (by omega), bumpE, rd_bump (by simp [bump]; omega) hi]
    have b1 := h1 i hi
    have b2 := h1 (rd (rdR ll k) 1) (by omega)
    have b3 := h1 (rd (rdR ll k) 0) (by omega)
    rw [rd_bump (by simp; omega) hi, rd_bump (by simp; omega) (by omega)]
    split <;> split <;> (try split) <;> omega
def isPants (g : Int) (ll : List (List Int)) : Bool := decide (2 ≤ g ∧ g ≤ 4) && (decide ((ll.length : Int) = 3 * g - 3) && (ll.all (rowOk (2 * g - 2)) && ((cnt (2 * g - 2).toNat ll ll.length).all (fun k => decide (k = 3)) && decide ((rootsOf (2 * g - 2).toNat (jl (-1) ll ll.length)).length = 1))))
theorem ends_of {n : Nat} {ll : List (List Int)} (h : ∀ j : Nat, j < ll.length → rowOk n (rdR ll j) = true) : Ends n ll := fun k hk => by
  have := h k hk
  simp only [rowOk, Bool.and_eq_true, decide_eq_true_eq] at this
  exact ⟨this.1, ⟨by omega, by omega⟩, ⟨by omega, by omega⟩⟩
theorem all_rows {n : Int} {ll : List (List Int)} : ll.all (rowOk n) = true ↔ ∀ j : Nat, j < ll.length → rowOk n (rdR ll j) = true := by
  rw [List.all_eq_true]
  refine ⟨fun h j hj => h _ (by simp [rdR, hj]), fun h x hx => ?_⟩
  obtain ⟨j, hj⟩ := List.mem_iff_getElem?.1 hx
  have h1 := (List.getElem?_eq_some_iff.1 hj).1
  have := h j h1
  rwa [show rdR ll j = x by simp [rdR, hj]] at this
theorem IsPantsS (g : Int) (ll : List (List Int)) (hll : (ll.length : Int) ≤ 1048576) : ConS Try.prog 13 [.i g, .ill ll] (.b (isPants g ll)) := by
  refine conS_of hmix hTab Try.func13 rfl rfl (by kernel_rfl) (by show 2 ≤ Try.f13.ntmps; decide) rfl ?_
  by_cases hg : 2 ≤ g ∧ g ≤ 4
  · refine stp ?_; try with_reducible exact True.intro
    refine useT ((l1In g 2 4).toT) ?_; try with_reducible exact True.intro
    simp only [hg, and_self, decide_true]
    refine stp ?_; try with_reducible exact True.intro
    refine Br.mk (fun h1 => ?_) (fun h1 => ?_) <;> simp at h1
    · refine stp ?_; try with_reducible exact True.intro
      simp [isPants, h1]
    · obtain ⟨n, hn⟩ : ∃ n : Nat, 2 * g - 2 = n := ⟨(2 * g - 2).toNat, by omega⟩
      have hbad : ∀ k : Nat, k < ll.length → rowOk n (rdR ll k) = false → isPants g ll = false := fun k hk hr => by
        have : ll.all (rowOk (2 * g - 2)) = false := by
          refine Bool.eq_false_iff.2 fun c => ?_
          rw [hn, all_rows] at c
          rw [c k hk] at hr; cases hr
        simp [isPants, this]
      refine stp ?_; try with_reducible exact True.intro
      refine ⟨Nat, fun k => k ≤ ll.length ∧ ∀ j : Nat, j < k → rowOk n (rdR ll j) = true, fun k => ll.length - k, fun k => [(0, .i g), (1, .ill ll), (5, .own 0 0 n), (6, .i k)], fun k => [.arr (.int .i64) (cnt n ll k) true], ⟨0, ⟨.frz [], [0], ⟨rfl, rfl, by show V.own 0 0 (2 * g - 2).toNat = _; rw [hn]; rfl, rfl, trivial⟩, ⟨by show some (Obj.arr (.int .i64) (List.replicate (2 * g - 2).toNat 0) true) = _; rw [hn]; rfl, trivial⟩, by decide, rfl, rfl, rfl⟩, by simp⟩, fun k ⟨hk, hok⟩ => ?_⟩
      dsimp only at hk hok ⊢
      have hcl := cnt_length n ll k
      have hcb := cnt_bound (n := n) k hk hok
      refine stp ?_; try with_reducible exact True.intro
      refine Br.mk (fun h2 => ?_) (fun h2 => ?_) <;> simp [-Int.ofNat_toNat] at h2
      · have hbad := hbad k h2
        have ql : List.length (rdT (.list (.int .i64)) ll (k : Int)) = (rdR ll k).length := rfl; have q0 : @Eq Int (rdT (.int .i64) (rdT (.list (.int .i64)) ll (k : Int)) 0) (rd (rdR ll k) 0) := rfl; have q1 : @Eq Int (rdT (.int .i64) (rdT (.list (.int .i64)) ll (k : Int)) 1) (rd (rdR ll k) 1) := rfl; have qlo : List.length (rdT (.list (.int .i64)) ll (((k : Int).toNat : Nat) : Int)) = (rdR ll k).length := rfl; have q0o : @Eq Int (rdT (.int .i64) (rdT (.list (.int .i64)) ll (((k : Int).toNat : Nat) : Int)) 0) (rd (rdR ll k) 0) := rfl; have q1o : @Eq Int (rdT (.int .i64) (rdT (.list (.int .i64)) ll (((k : Int).toNat : Nat) : Int)) 1) (rd (rdR ll k) 1) := rfl
        refine stp ?_; try with_reducible exact True.intro
        refine Br.mk (fun h3 => ?_) (fun h3 => ?_) <;> simp only [decide_eq_true_eq, decide_eq_false_iff_not, ne_eq, Decidable.not_not] at h3
        · refine stp ?_; try with_reducible exact True.intro
          rw [hbad (by simp [rowOk]; intros; omega)]
        · refine stp ?_; try with_reducible exact True.intro
          refine useT ((l1In (rd (rdR ll k) 0) 0 (2 * g - 3)).toT) ?_; try with_reducible exact True.intro
          refine Br.mk (fun h4 => ?_) (fun h4 => ?_) <;> simp at h4
          · refine stp ?_; try with_reducible exact True.intro
            rw [hbad (by simp [rowOk]; intros; omega)]
          · have h4' : 0 ≤ rd (rdR ll k) 0 ∧ rd (rdR ll k) 0 ≤ 2 * g - 3 := by omega
            refine stp ?_; try with_reducible exact True.intro
            refine useT ((l1In (rd (rdR ll k) 1) (rd (rdR ll k) 0) (2 * g - 3)).toT) ?_; try with_reducible exact True.intro
            refine Br.mk (fun h5 => ?_) (fun h5 => ?_) <;> simp at h5
            · refine stp ?_; try with_reducible exact True.intro
              rw [hbad (by simp [rowOk]; intros; omega)]
            · have h5' : rd (rdR ll k) 0 ≤ rd (rdR ll k) 1 ∧ rd (rdR ll k) 1 ≤ 2 * g - 3 := by omega
              have hrk : rowOk n (rdR ll k) = true := by simp [rowOk]; omega
              have c0 : @Eq Int (rdT (.int .i64) (cnt n ll k) ((Int.toNat (rdT (.int .i64) (rdT (.list (.int .i64)) ll (k : Int)) 0) : Nat) : Int)) (rd (cnt n ll k) (rd (rdR ll k) 0)) := rfl
              have b0 := hcb (rd (rdR ll k) 0) (by omega)
              have c1 : @Eq Int (rdT (.int .i64) (bump (cnt n ll k) (rd (rdR ll k) 0)) ((Int.toNat (rdT (.int .i64) (rdT (.list (.int .i64)) ll (k : Int)) 1) : Nat) : Int)) (rd (bump (cnt n ll k) (rd (rdR ll k) 0)) (rd (rdR ll k) 1)) := rfl
              have b1 : 0 ≤ rd (bump (cnt n ll k) (rd (rdR ll k) 0)) (rd (rdR ll k) 1) ∧ rd (bump (cnt n ll k) (rd (rdR ll k) 0)) (rd (rdR ll k) 1) ≤ 2 * k + 1 := by
                have b2 := hcb (rd (rdR ll k) 1) (by omega)
                rw [rd_bump (by omega) (by omega)]
                split <;> omega
              have hb1 : (bump (cnt n ll k) (rd (rdR ll k) 0)).length = n := by simp [bump]
              have hs : List.set (cnt n ll k) (Int.toNat (rdT (.int .i64) (rdT (.list (.int .i64)) ll (k : Int)) 0)) (rdT (.int .i64) (cnt n ll k) ((Int.toNat (rdT (.int .i64) (rdT (.list (.int .i64)) ll (k : Int)) 0) : Nat) : Int) + 1) = bump (cnt n ll k) (rd (rdR ll k) 0) := rfl
              refine stp ?_; try with_reducible exact True.intro
              rw [hs]
              refine stp ?_; try with_reducible exact True.intro
              exact ⟨k + 1, ⟨.frz [], [0], ⟨rfl, rfl, rfl, rfl, trivial⟩, ⟨by rw [cnt_succ h2]; rfl, trivial⟩, by decide, rfl, rfl, rfl⟩, ⟨h2, fun j hj => by
                by_cases e : j = k
                · rw [e]; exact hrk
                · exact hok j (by omega)⟩, by first | ((try dsimp only); omega) | (simp; omega)⟩
      · obtain rfl : k = ll.length := by omega
        have hall : ll.all (rowOk (2 * g - 2)) = true := by rw [hn, all_rows]; exact hok
        have hP : isPants g ll = ((cnt n ll ll.length).all (fun k => decide (k = 3)) && decide ((rootsOf n (jl (-1) ll ll.length)).length = 1)) := by
          simp only [isPants, hg, h1, hall, decide_true, Bool.true_and, and_self]
          rw [show (2 * g - 2).toNat = n by omega]
        rw [hP]
        generalize hcc : cnt n ll ll.length = c at *
        refine stp ?_; try with_reducible exact True.intro
        refine ⟨Nat, fun i => i ≤ n ∧ (c.drop i).all (fun k => decide (k = 3)) = c.all (fun k => decide (k = 3)), fun i => n - i, fun i => [(0, .i g), (1, .ill ll), (5, .own 0 0 n), (7, .i i)], fun i => [.arr (.int .i64) c true], ⟨0, (fitK [] [0]), by simp⟩, fun i ⟨hi, hal⟩ => ?_⟩
        dsimp only at hi hal ⊢
        refine stp ?_; try with_reducible exact True.intro
        refine Br.mk (fun h6 => ?_) (fun h6 => ?_) <;> simp [-Int.ofNat_toNat] at h6
        · rw [List.drop_eq_getElem_cons (by omega : i < c.length), List.all_cons] at hal
          have hci : c[i]'(by omega) = rd c i := by simp [rd, show i < c.length by omega]
          rw [hci] at hal
          refine stp ?_; try with_reducible exact True.intro
          refine Br.mk (fun h7 => ?_) (fun h7 => ?_) <;> simp [-Int.ofNat_toNat] at h7
          · refine stp ?_; try with_reducible exact True.intro
            have : c.all (fun k => decide (k = 3)) = false := by rw [← hal]; simp [show ¬ rd c i = 3 from h7]
            simp [this]
          · refine stp ?_; try with_reducible exact True.intro
            exact ⟨i + 1, (fitK [] [0]), ⟨h6, by rw [← hal]; simp [show rd c i = 3 from h7]⟩, by first | ((try dsimp only); omega) | (simp; omega)⟩
        · obtain rfl : i = n := by omega
          have hj := l19Joined i ll (-1) (by omega) (by omega) (ends_of hok)
          rw [← hn] at hj
          rw [List.drop_of_length_le (by omega)] at hal
          rw [← hal, List.all_nil, Bool.true_and]
          refine stp ?_; try with_reducible exact True.intro
          refine useT (hj.toT) ?_; try with_reducible exact True.intro
  · have hP : isPants g ll = false := by simp [isPants, hg]
    rw [hP]
    refine stp ?_; try with_reducible exact True.intro
    refine useT ((l1In g 2 4).toT) ?_; try with_reducible exact True.intro
    simp only [hg, decide_false]
    refine stp ?_; try with_reducible exact True.intro
end Go.Proofs.YtlglchbkenaekaaTv
end
section
open Go Go.Proofs.YtlglchbkenaekaaVe Go.Proofs.YtlglchbkenaekaaTv Go.Proofs
namespace Go.Proofs.YtlglchbkenaekaaTv
set_option maxRecDepth 8000
set_option maxHeartbeats 2000000
/-- The joins of the reference are a forest's. -/
theorem fo_jl {n : Nat} {ll : List (List Int)} {skip : Int} (hE : Ends n ll) : ∀ k, k ≤ ll.length → ∃ up, Fo n up (jl skip ll k)
  | 0, _ => ⟨_, Fo.init n⟩
  | k + 1, h => by
    obtain ⟨up, hF⟩ := fo_jl (skip := skip) hE k (by omega)
    obtain ⟨e1, e2, e3⟩ := hE k (by omega)
    unfold jl
    split
    · exact ⟨up, hF⟩
    · exact ⟨_, hF.join e2 e3⟩
theorem IsPantsI (g : Int) (ll : List (List Int)) (hll : (ll.length : Int) ≤ 1048576) : ConS Try.prog 15 [.i g, .ill ll] (.b (isPants g ll)) := by
  refine conS_of hmix hTab Try.func15 rfl rfl (by kernel_rfl) (by show 2 ≤ Try.f15.ntmps; decide) rfl ?_
  by_cases hg : 2 ≤ g ∧ g ≤ 4
  · refine stp ?_; try with_reducible exact True.intro
    refine useT ((within g 2 4).toT) ?_; try with_reducible exact True.intro
    simp only [hg, and_self, decide_true]
    refine stp ?_; try with_reducible exact True.intro
    refine Br.mk (fun h1 => ?_) (fun h1 => ?_) <;> simp at h1
    · refine stp ?_; try with_reducible exact True.intro
      simp [isPants, h1]
    · obtain ⟨n, hn⟩ : ∃ n : Nat, 2 * g - 2 = n := ⟨(2 * g - 2).toNat, by omega⟩
      have hbad : ∀ k : Nat, k < ll.length → rowOk n (rdR ll k) = false → isPants g ll = false := fun k hk hr => by
        have : ll.all (rowOk (2 * g - 2)) = false := by
          refine Bool.eq_false_iff.2 fun c => ?_
          rw [hn, all_rows] at c
          rw [c k hk] at hr; cases hr
        simp [isPants, this]
      have hnj := newJoiner n (by omega)
      rw [← hn] at hnj
      refine stp ?_; try with_reducible exact True.intro
      refine .inr ⟨_, _, _, hnj, by repeat (first | exact trivial | refine ⟨by first | exact rfl | exact trivial | exact ⟨_, rfl, rfl⟩ | exact ⟨_, _, rfl, by first | (simp; done) | (simp; omega), by first | (simp; done) | (simp [List.take_of_length_le]; done) | (rw [List.drop_zero]; exact List.take_of_length_le (by first | omega | (simp; omega))) | (simp [List.take_of_length_le]; omega)⟩ | exact ⟨_, rfl, by first | (simp; done) | (simp; omega), by first | (simp; done) | (simp [List.take_of_length_le]; done) | (rw [List.drop_zero]; exact List.take_of_length_le (by first | omega | (simp; omega))) | (simp [List.take_of_length_le]; omega)⟩, ?_⟩), rfl, rfl, by first | exact ⟨rfl, trivial⟩ | decide | (simp [okOs, okO]; done) | (simp [okOs, okO, okWs, okW, most]; done) | (simp [okOs, okO, okWs, okW, most]; omega), ?_⟩; refine stp ?_; try with_reducible exact True.intro
      simp only [hn, Int.toNat_natCast]
      refine ⟨Nat × List Int, fun a => a.1 ≤ ll.length ∧ (∀ j : Nat, j < a.1 → rowOk n (rdR ll j) = true) ∧ ∃ f, Fo n a.2 f ∧ Ker n f (jl (-1) ll a.1), fun a => ll.length - a.1, fun a => [(5, .i n), (6, .own 0 0 n), (7, .pcell 1 0), (30, .ill ll), (31, .i ll.length), (32, .i a.1)], fun a => [.arr (.int .i64) (cnt n ll a.1) true, .vars [.own 2 0 a.2.length], .arr (.int .i64) a.2 true], ⟨(0, ints n), (fitK [] [0, 1, 2]), by simp, by simp, id, Fo.init n, Ker.refl n id⟩, fun ⟨k, up⟩ ⟨hk, hok, f, hF, hKer⟩ => ?_⟩
      dsimp only at hk hok hF hKer ⊢
      have hcl := cnt_length n ll k
      have hcb := cnt_bound (n := n) k hk hok
      refine stp ?_; try with_reducible exact True.intro
      refine Br.mk (fun h2 => ?_) (fun h2 => ?_) <;> simp [-Int.ofNat_toNat] at h2
      · have hbad := hbad k h2
        have ql : List.length (rdT (.list (.int .i64)) ll (k : Int)) = (rdR ll k).length := rfl; have q0 : @Eq Int (rdT (.int .i64) (rdT (.list (.int .i64)) ll (k : Int)) 0) (rd (rdR ll k) 0) := rfl; have q1 : @Eq Int (rdT (.int .i64) (rdT (.list (.int .i64)) ll (k : Int)) 1) (rd (rdR ll k) 1) := rfl; have qlo : List.length (rdT (.list (.int .i64)) ll (((k : Int).toNat : Nat) : Int)) = (rdR ll k).length := rfl; have q0o : @Eq Int (rdT (.int .i64) (rdT (.list (.int .i64)) ll (((k : Int).toNat : Nat) : Int)) 0) (rd (rdR ll k) 0) := rfl; have q1o : @Eq Int (rdT (.int .i64) (rdT (.list (.int .i64)) ll (((k : Int).toNat : Nat) : Int)) 1) (rd (rdR ll k) 1) := rfl
        refine stp ?_; try with_reducible exact True.intro
        refine Br.mk (fun h3 => ?_) (fun h3 => ?_) <;> simp only [decide_eq_true_eq, decide_eq_false_iff_not, ne_eq, Decidable.not_not] at h3
        · refine stp ?_; try with_reducible exact True.intro
          rw [hbad (by simp [rowOk]; intros; omega)]
        · refine stp ?_; try with_reducible exact True.intro
          refine Br.mk (fun h4 => ?_) (fun h4 => ?_) <;> simp only [decide_eq_true_eq, decide_eq_false_iff_not] at h4
          · refine stp ?_; try with_reducible exact True.intro
            rw [hbad (by simp [rowOk]; intros; omega)]
          · refine stp ?_; try with_reducible exact True.intro
            refine Br.mk (fun h5 => ?_) (fun h5 => ?_) <;> simp only [decide_eq_true_eq, decide_eq_false_iff_not] at h5
            · refine stp ?_; try with_reducible exact True.intro
              rw [hbad (by simp [rowOk]; intros; omega)]
            · refine stp ?_; try with_reducible exact True.intro
              refine Br.mk (fun h6 => ?_) (fun h6 => ?_) <;> simp only [decide_eq_true_eq, decide_eq_false_iff_not] at h6
              · refine stp ?_; try with_reducible exact True.intro
                rw [hbad (by simp [rowOk]; intros; omega)]
              · have hrk : rowOk n (rdR ll k) = true := by simp [rowOk]; omega
                have c0 : @Eq Int (rdT (.int .i64) (cnt n ll k) ((Int.toNat (rdT (.int .i64) (rdT (.list (.int .i64)) ll (k : Int)) 0) : Nat) : Int)) (rd (cnt n ll k) (rd (rdR ll k) 0)) := rfl
                have b0 := hcb (rd (rdR ll k) 0) (by omega)
                have c1 : @Eq Int (rdT (.int .i64) (bump (cnt n ll k) (rd (rdR ll k) 0)) ((Int.toNat (rdT (.int .i64) (rdT (.list (.int .i64)) ll (k : Int)) 1) : Nat) : Int)) (rd (bump (cnt n ll k) (rd (rdR ll k) 0)) (rd (rdR ll k) 1)) := rfl
                have b1 : 0 ≤ rd (bump (cnt n ll k) (rd (rdR ll k) 0)) (rd (rdR ll k) 1) ∧ rd (bump (cnt n ll k) (rd (rdR ll k) 0)) (rd (rdR ll k) 1) ≤ 2 * k + 1 := by
                  have b2 := hcb (rd (rdR ll k) 1) (by omega)
                  rw [rd_bump (by omega) (by omega)]
                  split <;> omega
                have hb1 : (bump (cnt n ll k) (rd (rdR ll k) 0)).length = n := by simp [bump]
                have hs : List.set (cnt n ll k) (Int.toNat (rdT (.int .i64) (rdT (.list (.int .i64)) ll (k : Int)) 0)) (rdT (.int .i64) (cnt n ll k) ((Int.toNat (rdT (.int .i64) (rdT (.list (.int .i64)) ll (k : Int)) 0) : Nat) : Int) + 1) = bump (cnt n ll k) (rd (rdR ll k) 0) := rfl
                obtain ⟨up', f', hF', hK', hjoin⟩ := join hF (rd (rdR ll k) 0) (rd (rdR ll k) 1) ⟨by omega, by omega⟩ ⟨by omega, by omega⟩
                refine stp ?_; try with_reducible exact True.intro
                rw [hs]
                refine stp ?_; try with_reducible exact True.intro
                refine useI [1, 2] (hjoin) ?_; try with_reducible exact True.intro
                exact ⟨(k + 1, up'), ⟨.frz [], [0, 1, 2], ⟨rfl, rfl, rfl, rfl, rfl, rfl, trivial⟩, ⟨by rw [cnt_succ h2]; rfl, rfl, rfl, trivial⟩, by decide, rfl, rfl, rfl⟩, ⟨h2, fun j hj => by
                  by_cases e : j = k
                  · rw [e]; exact hrk
                  · exact hok j (by omega), f', hF', by
                  have := hK' _ hKer
                  rwa [jl, if_neg (by omega)]⟩, by first | ((try dsimp only); omega) | (simp; omega)⟩
      · obtain rfl : k = ll.length := by omega
        have hall : ll.all (rowOk (2 * g - 2)) = true := by rw [hn, all_rows]; exact hok
        have hP : isPants g ll = ((cnt n ll ll.length).all (fun k => decide (k = 3)) && decide ((rootsOf n (jl (-1) ll ll.length)).length = 1)) := by
          simp only [isPants, hg, h1, hall, decide_true, Bool.true_and, and_self]
          rw [show (2 * g - 2).toNat = n by omega]
        rw [hP]
        generalize hcc : cnt n ll ll.length = c at *
        have hlen := hF.len
        refine stp ?_; try with_reducible exact True.intro
        refine ⟨Nat, fun i => i ≤ n ∧ (c.drop i).all (fun k => decide (k = 3)) = c.all (fun k => decide (k = 3)), fun i => n - i, fun i => [(7, .pcell 1 0), (86, .own 0 0 n), (87, .i n), (88, .i i)], fun i => [.arr (.int .i64) c true, .vars [.own 2 0 up.length], .arr (.int .i64) up true], ⟨0, (fitK [] [0, 1, 2]), by simp⟩, fun i ⟨hi, hal⟩ => ?_⟩
        dsimp only at hi hal ⊢
        refine stp ?_; try with_reducible exact True.intro
        refine Br.mk (fun h6 => ?_) (fun h6 => ?_) <;> simp [-Int.ofNat_toNat] at h6
        · rw [List.drop_eq_getElem_cons (by omega : i < c.length), List.all_cons] at hal
          have hci : c[i]'(by omega) = rd c i := by simp [rd, show i < c.length by omega]
          rw [hci] at hal
          refine stp ?_; try with_reducible exact True.intro
          refine Br.mk (fun h7 => ?_) (fun h7 => ?_) <;> simp [-Int.ofNat_toNat] at h7
          · refine stp ?_; try with_reducible exact True.intro
            have : c.all (fun k => decide (k = 3)) = false := by rw [← hal]; simp [show ¬ rd c i = 3 from h7]
            simp [this]
          · refine stp ?_; try with_reducible exact True.intro
            exact ⟨i + 1, (fitK [] [0, 1, 2]), ⟨h6, by rw [← hal]; simp [show rd c i = 3 from h7]⟩, by first | ((try dsimp only); omega) | (simp; omega)⟩
        · obtain rfl : i = n := by omega
          rw [List.drop_of_length_le (by omega)] at hal
          rw [← hal, List.all_nil, Bool.true_and]
          have hre := roots_eq hF (fo_jl (ends_of hok) ll.length (by omega)).choose_spec hKer
          refine stp ?_; try with_reducible exact True.intro
          refine useI [1, 2] (count hF (by omega)) ?_; try with_reducible exact True.intro
          have e5 : (((rootsOf i f).length : Nat) : Int) = 1 ↔ (rootsOf i (jl (-1) ll ll.length)).length = 1 := by omega
          simp only [e5]
  · have hP : isPants g ll = false := by simp [isPants, hg]
    rw [hP]
    refine stp ?_; try with_reducible exact True.intro
    refine useT ((within g 2 4).toT) ?_; try with_reducible exact True.intro
    simp only [hg, decide_false]
    refine stp ?_; try with_reducible exact True.intro
end Go.Proofs.YtlglchbkenaekaaTv
end
section
open Go Go.Proofs.YtlglchbkenaekaaVe Go.Proofs.YtlglchbkenaekaaTv Go.Proofs
namespace Go.Proofs.YtlglchbkenaekaaTv
set_option maxRecDepth 8000
set_option maxHeartbeats 2000000
theorem pants_facts {g : Int} {ll : List (List Int)} (h : isPants g ll = true) : ∃ n : Nat, 2 * g - 2 = n ∧ 2 ≤ n ∧ n ≤ 6 ∧ (2 ≤ g ∧ g ≤ 4) ∧ (ll.length : Int) = 3 * g - 3 ∧ ll.length ≤ 9 ∧ ∀ j : Nat, j < ll.length → rowOk n (rdR ll j) = true := by
  simp only [isPants, Bool.and_eq_true, decide_eq_true_eq] at h
  obtain ⟨h1, h2, h3, _⟩ := h
  refine ⟨(2 * g - 2).toNat, by omega, by omega, by omega, h1, h2, by omega, all_rows.1 ?_⟩
  rw [show (((2 * g - 2).toNat : Nat) : Int) = 2 * g - 2 by omega]; exact h3
theorem rowOk_facts {n : Nat} {e : List Int} (h : rowOk n e = true) : e.length = 2 ∧ 0 ≤ rd e 0 ∧ rd e 0 ≤ rd e 1 ∧ rd e 1 < (n : Int) := by
  simpa [rowOk] using h
theorem roots_pos {n : Nat} {up : List Int} {f : Int → Int} (h : Fo n up f) (hn : 1 ≤ n) : 1 ≤ (rootsOf n f).length := by
  have h0 : InR n 0 := ⟨by omega, by omega⟩
  have : f 0 ∈ rootsOf n f := by
    simp only [rootsOf, List.mem_filter, beq_iff_eq]
    exact ⟨mem_ints.2 (h.rng 0 h0), h.idem h0⟩
  exact List.length_pos_of_mem this
def brg (n : Nat) (ll : List (List Int)) (e : Nat) : List Int := ((List.range e).filter fun e : Nat => !decide ((rootsOf n (jl (e : Int) ll ll.length)).length = 1)).map fun e : Nat => (e : Int)
theorem brg_succ (n : Nat) (ll : List (List Int)) (e : Nat) : brg n ll (e + 1) = if (rootsOf n (jl (e : Int) ll ll.length)).length = 1 then brg n ll e else brg n ll e ++ [(e : Int)] := by
  unfold brg
  rw [List.range_succ, List.filter_append, List.map_append]
  split
  · rename_i h; simp [h]
  · rename_i h; simp [h]
theorem brg_len (n : Nat) (ll : List (List Int)) (e : Nat) : (brg n ll e).length ≤ e := by
  unfold brg
  have := List.length_filter_le (fun e : Nat => !decide ((rootsOf n (jl (e : Int) ll ll.length)).length = 1)) (List.range e)
  simp at this ⊢
  exact this
def bridges (g : Int) (ll : List (List Int)) : List Int := if isPants g ll = true then brg (2 * g - 2).toNat ll ll.length else []
theorem BridgesOfS (g : Int) (ll : List (List Int)) (hll : (ll.length : Int) ≤ 1048576) : ConT Try.prog 17 [.i g, .ill ll] (.own 0 0 (bridges g ll).length) [.arr (.int .i64) (bridges g ll) true] := by
  refine conT_of hmix hTab Try.func17 rfl rfl (by kernel_rfl) (by show 2 ≤ Try.f17.ntmps; decide) ?_
  cases hP : isPants g ll with
  | false =>
    have hb : bridges g ll = [] := by simp [bridges, hP]
    rw [hb]
    have hc := IsPantsS g ll hll
    rw [hP] at hc
    refine stp ?_; try with_reducible exact True.intro
    refine ⟨Unit, fun _ => True, fun _ => 0, fun _ => [(0, .i g), (1, .ill ll), (5, .own 0 0 0), (6, .i 0)], fun _ => [.arr (.int .i64) [] true], ⟨(), (fitK [] [0]), trivial⟩, fun _ _ => ?_⟩
    refine stp ?_; try with_reducible exact True.intro
    refine Br.mk (fun h => ?_) (fun h => ?_) <;> simp [-Int.ofNat_toNat] at h
    · refine stp ?_; try with_reducible exact True.intro
      refine useT (hc.toT) ?_; try with_reducible exact True.intro
      exact (fitK [] [0])
    · refine stp ?_; try with_reducible exact True.intro
      exact (fitK [] [0])
  | true =>
    obtain ⟨n, hn, n2, n6, hg, hlen, hl9, hok⟩ := pants_facts hP
    have hb : bridges g ll = brg n ll ll.length := by rw [bridges, if_pos hP, show (2 * g - 2).toNat = n by omega]
    rw [hb]
    have hc := IsPantsS g ll hll
    rw [hP] at hc
    refine stp ?_; try with_reducible exact True.intro
    refine ⟨Nat, fun k => k ≤ ll.length, fun k => ll.length - k, fun k => [(0, .i g), (1, .ill ll), (5, .own 0 0 (brg n ll k).length), (6, .i k)], fun k => [.arr (.int .i64) (brg n ll k) true], ⟨0, (fitK [] [0]), Nat.zero_le _⟩, fun k hk => ?_⟩
    dsimp only at hk ⊢
    have hbl := brg_len n ll k
    have hs := brg_succ n ll k
    have hj := l19Joined n ll (k : Int) (by omega) hll (ends_of hok)
    rw [← hn] at hj
    refine stp ?_; try with_reducible exact True.intro
    refine Br.mk (fun h => ?_) (fun h => ?_) <;> simp [-Int.ofNat_toNat] at h
    · refine stp ?_; try with_reducible exact True.intro
      refine useT (hc.toT) ?_; try with_reducible exact True.intro
      refine useT (hj.toT) ?_; try with_reducible exact True.intro
      refine Br.mk (fun h2 => ?_) (fun h2 => ?_) <;> simp [-Int.ofNat_toNat] at h2
      · rw [if_neg h2] at hs
        refine stp ?_; try with_reducible exact True.intro
        refine ⟨k + 1, ⟨.frz [], [2], ⟨rfl, rfl, ?_, rfl, trivial⟩, ⟨?_, trivial⟩, by decide, rfl, rfl, rfl⟩, h, by first | ((try dsimp only); omega) | (simp; omega)⟩
        · rw [hs]; simp [V.ren, EnvV.ev, EnvV.upd]
        · rw [hs]; simp [Obj.ren, frzI, List.take_of_length_le]
      · rw [if_pos h2] at hs
        refine stp ?_; try with_reducible exact True.intro
        refine ⟨k + 1, ⟨.frz [], [0], ⟨rfl, rfl, ?_, rfl, trivial⟩, ⟨?_, trivial⟩, by decide, rfl, rfl, rfl⟩, h, by first | ((try dsimp only); omega) | (simp; omega)⟩
        · rw [hs]; rfl
        · rw [hs]; rfl
    · obtain rfl : k = ll.length := by omega
      refine stp ?_; try with_reducible exact True.intro
      exact (fitK [] [0])
theorem BridgesOfI (g : Int) (ll : List (List Int)) (hll : (ll.length : Int) ≤ 1048576) : ConT Try.prog 18 [.i g, .ill ll] (if isPants g ll = true then .own 0 0 (bridges g ll).length else .nil .unit) (if isPants g ll = true then [.arr (.int .i64) (bridges g ll) true] else []) := by
  refine conT_of hmix hTab Try.func18 rfl rfl (by kernel_rfl) (by show 2 ≤ Try.f18.ntmps; decide) ?_
  have hc := IsPantsI g ll hll
  cases hP : isPants g ll with
  | false =>
    rw [if_neg (by simp), if_neg (by simp)]
    rw [hP] at hc
    refine stp ?_; try with_reducible exact True.intro
    refine useT (hc.toT) ?_; try with_reducible exact True.intro
    exact (fitK [] [])
  | true =>
    obtain ⟨n, hn, n2, n6, hg, hlen, hl9, hok⟩ := pants_facts hP
    have hb : bridges g ll = brg n ll ll.length := by rw [bridges, if_pos hP, show (2 * g - 2).toNat = n by omega]
    rw [if_pos rfl, if_pos rfl, hb]
    rw [hP] at hc
    have hnj := newJoiner n (by omega)
    rw [← hn] at hnj
    refine stp ?_; try with_reducible exact True.intro
    refine useT (hc.toT) ?_; try with_reducible exact True.intro
    refine ⟨Nat, fun k => k ≤ ll.length, fun k => ll.length - k, fun k => [(0, .i g), (1, .ill ll), (5, .own 0 0 (brg n ll k).length), (15, .ill ll), (16, .i ll.length), (17, .i k)], fun k => [.arr (.int .i64) (brg n ll k) true], ⟨0, (fitK [] [0]), Nat.zero_le _⟩, fun i hi => ?_⟩
    dsimp only at hi ⊢
    have hbl := brg_len n ll i
    have hs := brg_succ n ll i
    refine stp ?_; try with_reducible exact True.intro
    refine Br.mk (fun h => ?_) (fun h => ?_) <;> simp [-Int.ofNat_toNat] at h
    · refine stp ?_; try with_reducible exact True.intro
      refine useT (hnj) ?_; try with_reducible exact True.intro
      refine ⟨Nat × List Int, fun a => a.1 ≤ ll.length ∧ ∃ f, Fo n a.2 f ∧ Ker n f (jl (i : Int) ll a.1), fun a => ll.length - a.1, fun a => [(0, .i g), (1, .ill ll), (5, .own 0 0 (brg n ll i).length), (6, .i i), (7, .pcell 1 0), (15, .ill ll), (16, .i ll.length), (17, .i i), (24, .ill ll), (25, .i ll.length), (26, .i a.1)], fun a => [.arr (.int .i64) (brg n ll i) true, .vars [.own 2 0 a.2.length], .arr (.int .i64) a.2 true], ⟨(0, ints n), (fitK [] [0, 1, 2]), by simp, id, Fo.init n, Ker.refl n id⟩, fun ⟨k, up⟩ ⟨hk, f, hF, hKer⟩ => ?_⟩
      dsimp only at hk hF hKer ⊢
      refine stp ?_; try with_reducible exact True.intro
      refine Br.mk (fun h2 => ?_) (fun h2 => ?_) <;> simp [-Int.ofNat_toNat] at h2
      · obtain ⟨r1, r2, r3, r4⟩ := rowOk_facts (hok k h2)
        have ql : List.length (rdT (.list (.int .i64)) ll (k : Int)) = (rdR ll k).length := rfl; have q0 : @Eq Int (rdT (.int .i64) (rdT (.list (.int .i64)) ll (k : Int)) 0) (rd (rdR ll k) 0) := rfl; have q1 : @Eq Int (rdT (.int .i64) (rdT (.list (.int .i64)) ll (k : Int)) 1) (rd (rdR ll k) 1) := rfl; have qlo : List.length (rdT (.list (.int .i64)) ll (((k : Int).toNat : Nat) : Int)) = (rdR ll k).length := rfl; have q0o : @Eq Int (rdT (.int .i64) (rdT (.list (.int .i64)) ll (((k : Int).toNat : Nat) : Int)) 0) (rd (rdR ll k) 0) := rfl; have q1o : @Eq Int (rdT (.int .i64) (rdT (.list (.int .i64)) ll (((k : Int).toNat : Nat) : Int)) 1) (rd (rdR ll k) 1) := rfl
        refine stp ?_; try with_reducible exact True.intro
        refine Br.mk (fun h3 => ?_) (fun h3 => ?_) <;> simp [-Int.ofNat_toNat] at h3
        · obtain ⟨up', f', hF', hK', hjoin⟩ := join hF (rd (rdR ll k) 0) (rd (rdR ll k) 1) ⟨by omega, by omega⟩ ⟨by omega, by omega⟩
          refine stp ?_; try with_reducible exact True.intro
          refine useI [1, 2] (hjoin) ?_; try with_reducible exact True.intro
          exact ⟨(k + 1, up'), (fitK [] [0, 1, 2]), ⟨h2, f', hF', by
            have := hK' _ hKer
            rwa [jl, if_neg h3]⟩, by first | ((try dsimp only); omega) | (simp; omega)⟩
        · refine stp ?_; try with_reducible exact True.intro
          exact ⟨(k + 1, up), (fitK [] [0, 1, 2]), ⟨h2, f, hF, by rwa [jl, if_pos h3]⟩, by first | ((try dsimp only); omega) | (simp; omega)⟩
      · obtain rfl : k = ll.length := by omega
        have hre := roots_eq hF (fo_jl (skip := (i : Int)) (ends_of hok) ll.length (by omega)).choose_spec hKer
        have hrp := roots_pos hF (by omega)
        refine stp ?_; try with_reducible exact True.intro
        refine useI [1, 2] (count hF (by omega)) ?_; try with_reducible exact True.intro
        refine Br.mk (fun h4 => ?_) (fun h4 => ?_) <;> simp [-Int.ofNat_toNat] at h4
        · rw [if_neg (by omega)] at hs
          refine stp ?_; try with_reducible exact True.intro
          refine ⟨i + 1, ⟨.frz [], [4], ⟨rfl, rfl, ?_, rfl, rfl, rfl, trivial⟩, ⟨?_, trivial⟩, by decide, rfl, rfl, rfl⟩, h, by first | ((try dsimp only); omega) | (simp; omega)⟩
          · rw [hs]; simp [V.ren, EnvV.ev, EnvV.upd]
          · rw [hs]; simp [Obj.ren, frzI, List.take_of_length_le]
        · rw [if_pos (by omega)] at hs
          refine stp ?_; try with_reducible exact True.intro
          refine ⟨i + 1, ⟨.frz [], [0], ⟨rfl, rfl, ?_, rfl, rfl, rfl, trivial⟩, ⟨?_, trivial⟩, by decide, rfl, rfl, rfl⟩, h, by first | ((try dsimp only); omega) | (simp; omega)⟩
          · rw [hs]; rfl
          · rw [hs]; rfl
    · obtain rfl : i = ll.length := by omega
      refine stp ?_; try with_reducible exact True.intro
      exact (fitK [] [0])
end Go.Proofs.YtlglchbkenaekaaTv
end
section
open Go Go.Proofs.YtlglchbkenaekaaVe Go.Proofs.YtlglchbkenaekaaTv Go.Proofs
namespace Go.Proofs.YtlglchbkenaekaaTv
set_option maxRecDepth 8000
set_option maxHeartbeats 2000000
/-- n, n + 1, .. -/
def marks (n : Int) (k : Nat) : List Int := (List.range k).map fun i => n + (i : Nat)
@[simp] theorem marks_length (n : Int) (k : Nat) : (marks n k).length = k := by simp [marks]
theorem marks_get (n : Int) {k i : Nat} (h : i < k) : (marks n k)[i]? = some (n + i) := by simp [marks, h]
theorem markIntS (l : List Int) (n : Int) (hn : -1000000000000 ≤ n ∧ n ≤ 1000000000000) (hl : (l.length : Int) ≤ 274877906944) : ConI Try.prog 21 [.own 0 0 l.length, .i n] [.arr (.int .i64) l true] (.i (n + l.length)) [.arr (.int .i64) (marks n l.length) true] := by
  refine conI_of hmix hTab Try.func21 rfl rfl (by kernel_rfl) (by show 2 ≤ Try.f21.ntmps; decide) ?_
  refine stp ?_; try with_reducible exact True.intro
  refine ⟨Nat, fun i => i ≤ l.length, fun i => l.length - i, fun i => [(0, .own 0 0 l.length), (1, .i (n + i)), (5, .i i)], fun i => [.arr (.int .i64) ((marks n l.length).take i ++ l.drop i) true], ⟨0, ⟨.frz [], [0], ⟨rfl, by simp [V.ren, EnvV.upd, EnvV.ev, env0T], rfl, trivial⟩, ⟨rfl, trivial⟩, by decide, rfl, rfl, rfl⟩, by simp⟩, fun i hi => ?_⟩
  dsimp only at hi
  have hml := marks_length n l.length
  have hlen : ((marks n l.length).take i ++ l.drop i).length = l.length := by simp; omega
  refine stp ?_; try with_reducible exact True.intro
  refine Br.mk (fun h => ?_) (fun h => ?_) <;> simp [-Int.ofNat_toNat] at h
  · refine stp ?_; try with_reducible exact True.intro
    refine ⟨i + 1, ⟨.frz [], [0], ⟨rfl, ?_, rfl, trivial⟩, ⟨?_, trivial⟩, by decide, rfl, rfl, rfl⟩, h, by dsimp only; omega⟩
    · show V.i (n + i + 1) = V.i (n + (i + 1 : Nat))
      rw [show n + (i : Int) + 1 = n + ((i + 1 : Nat) : Int) by omega]
    · refine congrArg (fun x => some (Obj.arr (.int .i64) x true)) ?_
      have h1 : (i : Int).toNat = i := by omega
      rw [h1, List.set_append_right _ _ (by simp; omega), List.take_add_one, marks_get n h]
      have h2 : i - ((marks n l.length).take i).length = 0 := by simp; omega
      rw [h2, List.drop_eq_getElem_cons h, List.set_cons_zero]
      simp
  · refine stp ?_; try with_reducible exact True.intro
    obtain rfl : i = l.length := Nat.le_antisymm hi h
    exact ⟨.frz [], [0], ⟨rfl, trivial⟩, ⟨by rw [List.take_of_length_le (by omega), List.drop_of_length_le (Nat.le_refl _), List.append_nil]; rfl, trivial⟩, by decide, rfl, rfl, rfl⟩
theorem markIntN (n : Int) : ConS Try.prog 21 [.nil .unit, .i n] (.i n) := by
  refine conS_of hmix hTab Try.func21 rfl rfl (by kernel_rfl) (by show 2 ≤ Try.f21.ntmps; decide) rfl ?_
  refine stp ?_; try with_reducible exact True.intro
  refine ⟨Unit, fun _ => True, fun _ => 0, fun _ => [(0, .nil .unit), (1, .i n), (5, .i 0)], fun _ => [], ⟨(), ⟨.frz [], [], ⟨rfl, rfl, rfl, trivial⟩, trivial, by decide, rfl, rfl, rfl⟩, trivial⟩, fun _ _ => ?_⟩
  refine stp ?_; try with_reducible exact True.intro
/-- n, n + 1, .. stand there still. -/
theorem heldIntS (n : Int) (k : Nat) (hn : 0 ≤ n ∧ n ≤ 1000000000000) (hl : (k : Int) ≤ 274877906944) : ConS Try.prog 22 [.il (marks n k), .i n] (.i (n + k)) := by
  refine conS_of hmix hTab Try.func22 rfl rfl (by kernel_rfl) (by show 2 ≤ Try.f22.ntmps; decide) rfl ?_
  have hml := marks_length n k
  refine stp ?_; try with_reducible exact True.intro
  refine ⟨Nat, fun i => i ≤ k, fun i => k - i, fun i => [(0, .il (marks n k)), (1, .i (n + i)), (5, .i i)], fun i => [], ⟨0, ⟨.frz [], [], ⟨rfl, by simp [V.ren, EnvV.upd, EnvV.ev, env0T], rfl, trivial⟩, trivial, by decide, rfl, rfl, rfl⟩, by simp⟩, fun i hi => ?_⟩
  dsimp only at hi
  refine stp ?_; try with_reducible exact True.intro
  refine Br.mk (fun h => ?_) (fun h => ?_) <;> simp [-Int.ofNat_toNat] at h
  · have h1 : rdT (.int .i64) (marks n k) i = n + i := by simp [rd, List.getD_eq_getElem?_getD, marks_get n (show i < k by omega)]
    refine stp ?_; try with_reducible exact True.intro
    rw [h1]
    refine Br.mk (fun h2 => ?_) (fun h2 => ?_) <;> simp [-Int.ofNat_toNat] at h2
    refine stp ?_; try with_reducible exact True.intro
    refine ⟨i + 1, ⟨.frz [], [], ⟨rfl, ?_, rfl, trivial⟩, trivial, by decide, rfl, rfl, rfl⟩, by omega, by dsimp only; omega⟩
    show V.i (n + i + 1) = V.i (n + (i + 1 : Nat))
    rw [show n + (i : Int) + 1 = n + ((i + 1 : Nat) : Int) by omega]
  · refine stp ?_; try with_reducible exact True.intro
    obtain rfl : i = k := by omega
    rfl
theorem heldIntN (n : Int) : ConS Try.prog 22 [.nil .unit, .i n] (.i n) := by
  refine conS_of hmix hTab Try.func22 rfl rfl (by kernel_rfl) (by show 2 ≤ Try.f22.ntmps; decide) rfl ?_
  refine stp ?_; try with_reducible exact True.intro
  refine ⟨Unit, fun _ => True, fun _ => 0, fun _ => [(0, .nil .unit), (1, .i n), (5, .i 0)], fun _ => [], ⟨(), ⟨.frz [], [], ⟨rfl, rfl, rfl, trivial⟩, trivial, by decide, rfl, rfl, rfl⟩, trivial⟩, fun _ _ => ?_⟩
  refine stp ?_; try with_reducible exact True.intro
end Go.Proofs.YtlglchbkenaekaaTv
end
section
open Go Go.Proofs.YtlglchbkenaekaaVe Go.Proofs.YtlglchbkenaekaaTv Go.Proofs
namespace Go.Proofs.YtlglchbkenaekaaTv
set_option maxRecDepth 8000
set_option maxHeartbeats 2000000
def total : List (List Int) → Int
  | [] => 0
  | r :: rs => r.length + total rs
/-- n, n + 1, .. through all rows. -/
def marksR (n : Int) : List (List Int) → List (List Int)
  | [] => []
  | r :: rs => marks n r.length :: marksR (n + r.length) rs
@[simp] theorem marksR_length : ∀ (n : Int) (ll : List (List Int)), (marksR n ll).length = ll.length
  | _, [] => rfl
  | n, r :: rs => by simp [marksR, marksR_length]
theorem total_nonneg : ∀ ll, 0 ≤ total ll
  | [] => by simp [total]
  | r :: rs => by have := total_nonneg rs; simp only [total]; omega
theorem total_append : ∀ (l m : List (List Int)), total (l ++ m) = total l + total m
  | [], m => by simp [total]
  | r :: l, m => by simp only [List.cons_append, total, total_append l m]; omega
theorem marksR_append : ∀ (n : Int) (l m : List (List Int)), marksR n (l ++ m) = marksR n l ++ marksR (n + total l) m
  | n, [], m => by simp [marksR, total]
  | n, r :: l, m => by
    simp only [List.cons_append, marksR, marksR_append _ l m, total]
    rw [show n + (r.length : Int) + total l = n + ((r.length : Int) + total l) by omega]
theorem take_succR {l : List (List Int)} {i : Nat} (h : i < l.length) : l.take (i + 1) = l.take i ++ [rdR l i] := by
  rw [List.take_add_one]
  simp [rdR, h]
theorem total_le {ll : List (List Int)} {c : Nat} (h : ∀ r ∈ ll, r.length ≤ c) : total ll ≤ ll.length * c := by
  induction ll with
  | nil => simp [total]
  | cons r ll ih =>
    have h1 := ih fun x hx => h x (by simp [hx])
    have h2 := h r (by simp)
    simp only [total, List.length_cons, Nat.succ_mul, Int.natCast_add, Int.natCast_one, Int.add_mul]
    omega
theorem markIntSSb (ll : List (List Int)) (n : Int) (hn : 0 ≤ n ∧ n + total ll ≤ 1000000000000) (hl : (ll.length : Int) ≤ 274877906944) (hr : ∀ r ∈ ll, (r.length : Int) ≤ 274877906944) : ConI Try.prog 20 [.own 0 0 ll.length, .i n] [.arr (.list (.int .i64)) ll true] (.i (n + total ll)) [.arr (.list (.int .i64)) (marksR n ll) true] := by
  refine conI_of hmix hTab Try.func20 rfl rfl (by kernel_rfl) (by show 2 ≤ Try.f20.ntmps; decide) ?_
  refine stp ?_; try with_reducible exact True.intro
  refine ⟨Nat, fun i => i ≤ ll.length, fun i => ll.length - i, fun i => [(0, .own 0 0 ll.length), (1, .i (n + total (ll.take i))), (5, .i i)], fun i => [.arr (.list (.int .i64)) (marksR n (ll.take i) ++ ll.drop i) true], ⟨0, ⟨.frz [], [0], ⟨rfl, by simp [V.ren, EnvV.upd, EnvV.ev, env0T, total], rfl, trivial⟩, ⟨by simp [marksR, Obj.ren, frzI], trivial⟩, by decide, rfl, rfl, rfl⟩, Nat.zero_le _⟩, fun i hi => ?_⟩
  dsimp only at hi ⊢
  have hml := marksR_length n (ll.take i)
  have hlen : (marksR n (ll.take i) ++ ll.drop i).length = ll.length := by simp; omega
  have ht0 := total_nonneg (ll.take i)
  have ht1 : total ll = total (ll.take i) + total (ll.drop i) := by rw [← total_append, List.take_append_drop]
  have ht2 := total_nonneg (ll.drop i)
  refine stp ?_; try with_reducible exact True.intro
  refine Br.mk (fun h => ?_) (fun h => ?_) <;> simp [-Int.ofNat_toNat] at h
  · have hrow : (marksR n (ll.take i) ++ ll.drop i).getD i [] = rdR ll i := by
      rw [drop_consR h, List.getD_eq_getElem?_getD, List.getElem?_append_right (by simp; omega)]
      simp [show i - min i ll.length = 0 by omega]
    have ht3 : total (ll.drop i) = (rdR ll i).length + total (ll.drop (i + 1)) := by rw [drop_consR h, total]
    have ht4 := total_nonneg (ll.drop (i + 1))
    have ht5 : total (ll.take (i + 1)) = total (ll.take i) + (rdR ll i).length := by rw [take_succR h, total_append]; simp [total]
    have hset : (marksR n (ll.take i) ++ ll.drop i).set i (marks (n + total (ll.take i)) (rdR ll i).length) = marksR n (ll.take (i + 1)) ++ ll.drop (i + 1) := by
      rw [take_succR h, marksR_append, drop_consR h, List.set_append_right _ _ (by simp; omega)]
      simp [marksR, show i - min i ll.length = 0 by omega]
    refine stp ?_; try with_reducible exact True.intro
    refine .inr ⟨rfl, by simp; omega, ⟨fun he => ?_, ?_⟩⟩
    · have hr0 : rdR ll i = [] := by rw [← hrow]; exact he
      rw [hr0] at ht5 hset
      refine stp ?_; try with_reducible exact True.intro
      refine useT ((markIntN (n + total (ll.take i))).toT) ?_; try with_reducible exact True.intro
      refine ⟨i + 1, ⟨.jn 0 ⟨trivial, rfl⟩ (.frz []), [0], ⟨rfl, ?_, rfl, trivial⟩, ⟨?_, trivial⟩, by decide, rfl, rfl, rfl⟩, h, by first | ((try dsimp only); omega) | (simp; omega)⟩
      · simp [V.ren, EnvV.upd, EnvV.ev, ht5]
      · have hm0 : marks (n + total (ll.take i)) ([] : List Int).length = [] := rfl
        rw [hm0] at hset
        rw [← hset]
        rfl
    · have hm := markIntS (rdR ll i) (n + total (ll.take i)) (by omega) (hr _ (by simp [rdR, h]))
      have hg : (marksR n (ll.take i) ++ ll.drop i).getD (i : Int).toNat [] = rdR ll i := hrow
      simp only [hg]
      refine stp ?_; try with_reducible exact True.intro
      refine useI [1] (hm) ?_; try with_reducible exact True.intro
      refine ⟨i + 1, ⟨.jn 0 ⟨Nat.le_refl 1, _, rfl, rfl, by simp, Nat.zero_ne_one, rfl⟩ (.frz []), [0], ⟨rfl, ?_, rfl, trivial⟩, ⟨?_, trivial⟩, by decide, rfl, rfl, rfl⟩, h, by first | ((try dsimp only); omega) | (simp; omega)⟩
      · show V.i (n + total (ll.take i) + (rdR ll i).length) = V.i (n + total (ll.take (i + 1)))
        rw [ht5, Int.add_assoc]
      · rw [← hset]
        rfl
  · refine stp ?_; try with_reducible exact True.intro
    obtain rfl : i = ll.length := by omega
    exact ⟨.frz [], [0], ⟨by rw [List.take_of_length_le (Nat.le_refl _)]; rfl, trivial⟩, ⟨by simp [Obj.ren, frzI], trivial⟩, by decide, rfl, rfl, rfl⟩
theorem heldIntSSb (ll : List (List Int)) (n : Int) (hn : 0 ≤ n ∧ n + total ll ≤ 1000000000000) (hl : (ll.length : Int) ≤ 274877906944) (hr : ∀ r ∈ ll, (r.length : Int) ≤ 274877906944) : ConS Try.prog 25 [.ill (marksR n ll), .i n] (.i (n + total ll)) := by
  refine conS_of hmix hTab Try.func25 rfl rfl (by kernel_rfl) (by show 2 ≤ Try.f25.ntmps; decide) rfl ?_
  have hml := marksR_length n ll
  refine stp ?_; try with_reducible exact True.intro
  refine ⟨Nat, fun i => i ≤ ll.length, fun i => ll.length - i, fun i => [(0, .ill (marksR n ll)), (1, .i (n + total (ll.take i))), (5, .i i)], fun i => [], ⟨0, ⟨.frz [], [], ⟨rfl, by simp [V.ren, EnvV.upd, EnvV.ev, env0T, total], rfl, trivial⟩, trivial, by decide, rfl, rfl, rfl⟩, Nat.zero_le _⟩, fun i hi => ?_⟩
  dsimp only at hi ⊢
  have ht0 := total_nonneg (ll.take i)
  have ht1 : total ll = total (ll.take i) + total (ll.drop i) := by rw [← total_append, List.take_append_drop]
  have ht2 := total_nonneg (ll.drop i)
  refine stp ?_; try with_reducible exact True.intro
  refine Br.mk (fun h => ?_) (fun h => ?_) <;> simp [-Int.ofNat_toNat] at h
  · have ht3 : total (ll.drop i) = (rdR ll i).length + total (ll.drop (i + 1)) := by rw [drop_consR h, total]
    have ht4 := total_nonneg (ll.drop (i + 1))
    have ht5 : total (ll.take (i + 1)) = total (ll.take i) + (rdR ll i).length := by rw [take_succR h, total_append]; simp [total]
    have hrow : rdR (marksR n ll) i = marks (n + total (ll.take i)) (rdR ll i).length := by
      have e : marksR n ll = marksR n (ll.take i) ++ marksR (n + total (ll.take i)) (ll.drop i) := by rw [← marksR_append, List.take_append_drop]
      rw [e, drop_consR h, marksR]
      simp only [rdR, List.getD_eq_getElem?_getD, Int.toNat_natCast]
      rw [List.getElem?_append_right (by simp; omega)]
      simp [show i - min i ll.length = 0 by omega]
    have hh := heldIntS (n + total (ll.take i)) (rdR ll i).length (by omega) (hr _ (by simp [rdR, h]))
    rw [← hrow] at hh
    refine stp ?_; try with_reducible exact True.intro
    refine useT (hh.toT) ?_; try with_reducible exact True.intro
    refine Br.mk (fun h2 => ?_) (fun h2 => ?_) <;> simp [-Int.ofNat_toNat] at h2
    · omega
    · refine stp ?_; try with_reducible exact True.intro
      refine ⟨i + 1, ⟨.frz [], [], ⟨rfl, ?_, rfl, trivial⟩, trivial, by decide, rfl, rfl, rfl⟩, h, by first | ((try dsimp only); omega) | (simp; omega)⟩
      show V.i (n + total (ll.take i) + (rdR ll i).length) = V.i (n + total (ll.take (i + 1)))
      rw [ht5, Int.add_assoc]
  · obtain rfl : i = ll.length := by omega
    refine stp ?_; try with_reducible exact True.intro
    rw [List.take_of_length_le (Nat.le_refl _)]
theorem row_le_total : ∀ {ll : List (List Int)} {r : List Int}, r ∈ ll → (r.length : Int) ≤ total ll
  | q :: ll, r, h => by
    have := total_nonneg ll
    rcases List.mem_cons.1 h with rfl | h
    · simp only [total]; omega
    · have := row_le_total h
      simp only [total]; omega
theorem markIntSS (ll : List (List Int)) (n : Int) (hn : 0 ≤ n ∧ n + total ll ≤ 274877906944) (hl : (ll.length : Int) ≤ 274877906944) : ConI Try.prog 20 [.own 0 0 ll.length, .i n] [.arr (.list (.int .i64)) ll true] (.i (n + total ll)) [.arr (.list (.int .i64)) (marksR n ll) true] :=
  markIntSSb ll n (by omega) hl fun r hr => by have := row_le_total hr; omega
theorem heldIntSS (ll : List (List Int)) (n : Int) (hn : 0 ≤ n ∧ n + total ll ≤ 274877906944) (hl : (ll.length : Int) ≤ 274877906944) : ConS Try.prog 25 [.ill (marksR n ll), .i n] (.i (n + total ll)) :=
  heldIntSSb ll n (by omega) hl fun r hr => by have := row_le_total hr; omega
end Go.Proofs.YtlglchbkenaekaaTv
end
section
open Go Go.Proofs.YtlglchbkenaekaaVe Go.Proofs.YtlglchbkenaekaaTv Go.Proofs
namespace Go.Proofs.YtlglchbkenaekaaTv
set_option maxRecDepth 8000
set_option maxHeartbeats 2000000
theorem szSS_total {ll : List (List Int)} {left : Int} (h : 0 ≤ szSS ll left) : total ll ≤ left := by
  unfold szSS at h
  split at h
  · omega
  · rename_i h1
    have : ∀ (l : List (List Int)) (lf : Int), 0 ≤ lf → 0 ≤ szR l lf → total l ≤ lf := by
      intro l
      induction l with
      | nil => intro lf h0 _; simpa [total] using h0
      | cons r l ih =>
        intro lf h0 h2
        unfold szR at h2
        split at h2
        · omega
        · rename_i h3
          have h4 : szS r lf = lf - r.length := by
            unfold szS at h3 ⊢
            split
            · rename_i h5; simp [h5] at h3
            · rfl
          have := ih _ (by omega) h2
          simp only [total]
          omega
    have := this ll _ (by omega) h
    omega
theorem lawBridgesOf (g : Int) (ll : List (List Int)) (hl : (ll.length : Int) ≤ 140737488355328) (hr : ∀ r ∈ ll, (r.length : Int) ≤ 140737488355328) : ConS Try.prog 4 [.i g, .ill ll] (.b true) := by
  refine conS_of hmix hTab Try.func4 rfl rfl (by kernel_rfl) (by show 2 ≤ Try.f4.ntmps; decide) rfl ?_
  refine stp ?_; try with_reducible exact True.intro
  refine useT ((szIntSS ll 1048576 (by decide) hl hr).toT) ?_; try with_reducible exact True.intro
  refine Br.mk (fun h1 => ?_) (fun h1 => ?_) <;> simp [-Int.ofNat_toNat] at h1
  · refine stp ?_; try with_reducible exact True.intro
  · obtain ⟨h2, h3⟩ := szSS_facts (Int.le_refl _) h1
    have h4 : ∀ r ∈ ll, (r.length : Int) ≤ 274877906944 := fun r hr => by have := h3 r hr; omega
    have h5 := szSS_total h1
    have hS := BridgesOfS g ll h2
    have hI := BridgesOfI g ll h2
    have hm := markIntSS ll 1 (by omega) (by omega)
    have ht0 := total_nonneg ll
    refine stp ?_; try with_reducible exact True.intro
    refine useT (toIntSS ll h2 h3) ?_; try with_reducible exact True.intro
    refine useT (hS) ?_; try with_reducible exact True.intro
    refine useT (toIntSS ll h2 h3) ?_; try with_reducible exact True.intro
    cases hP : isPants g ll with
    | true =>
      obtain ⟨n, hn, n2, n6, hg, hlen, hl9, hok⟩ := pants_facts hP
      have hbl : (bridges g ll).length ≤ 9 := by
        rw [bridges, if_pos hP]
        exact Nat.le_trans (brg_len _ _ _) hl9
      rw [if_pos hP, if_pos hP] at hI
      generalize bridges g ll = r at *
      have hml := marks_length 1 r.length
      refine useT (hI) ?_; try with_reducible exact True.intro
      refine useT ((eqIntS r r (by omega)).toT) ?_; try with_reducible exact True.intro
      refine Br.mk (fun h6 => ?_) (fun h6 => ?_) <;> simp [-Int.ofNat_toNat] at h6
      refine stp ?_; try with_reducible exact True.intro
      refine useT (toIntSS ll h2 h3) ?_; try with_reducible exact True.intro
      refine useT ((eqIntSS ll ll (by omega) h4).toT) ?_; try with_reducible exact True.intro
      refine Br.mk (fun h7 => ?_) (fun h7 => ?_) <;> simp [-Int.ofNat_toNat] at h7
      refine stp ?_; try with_reducible exact True.intro
      refine useI [2] (hm) ?_; try with_reducible exact True.intro
      refine brF (by simp; omega) ?_
      refine stp ?_; try with_reducible exact True.intro
      refine useT ((eqIntS r r (by omega)).toT) ?_; try with_reducible exact True.intro
      refine Br.mk (fun h8 => ?_) (fun h8 => ?_) <;> simp [-Int.ofNat_toNat] at h8
      refine stp ?_; try with_reducible exact True.intro
      refine useI [3] (markIntS r 1 (by decide) (by omega)) ?_; try with_reducible exact True.intro
      refine useT ((heldIntS 1 r.length (by decide) (by omega)).toT) ?_; try with_reducible exact True.intro
      refine Br.mk (fun h9 => ?_) (fun h9 => ?_) <;> simp [-Int.ofNat_toNat] at h9
      refine stp ?_; try with_reducible exact True.intro
      refine useT (toIntSS ll h2 h3) ?_; try with_reducible exact True.intro
      refine useT (hI) ?_; try with_reducible exact True.intro
      refine useT ((eqIntS r r (by omega)).toT) ?_; try with_reducible exact True.intro
      refine Br.mk (fun h10 => ?_) (fun h10 => ?_) <;> simp [-Int.ofNat_toNat] at h10
      refine stp ?_; try with_reducible exact True.intro
      refine useT ((heldIntS 1 r.length (by decide) (by omega)).toT) ?_; try with_reducible exact True.intro
      refine Br.mk (fun h11 => ?_) (fun h11 => ?_) <;> simp [-Int.ofNat_toNat] at h11
      refine stp ?_; try with_reducible exact True.intro
    | false =>
      have hb : bridges g ll = [] := by simp [bridges, hP]
      rw [hb] at hI
      rw [if_neg (by simp [hP]), if_neg (by simp [hP])] at hI
      rw [hb]
      refine useT (hI) ?_; try with_reducible exact True.intro
      refine useT ((eqIntS [] [] (by simp)).toT) ?_; try with_reducible exact True.intro
      refine useT (toIntSS ll h2 h3) ?_; try with_reducible exact True.intro
      refine useT ((eqIntSS ll ll (by omega) h4).toT) ?_; try with_reducible exact True.intro
      refine Br.mk (fun h7 => ?_) (fun h7 => ?_) <;> simp [-Int.ofNat_toNat] at h7
      refine stp ?_; try with_reducible exact True.intro
      refine useI [2] (hm) ?_; try with_reducible exact True.intro
      refine brF (by simp; omega) ?_
      refine stp ?_; try with_reducible exact True.intro
      refine useT ((eqIntS [] [] (by simp)).toT) ?_; try with_reducible exact True.intro
      refine useT ((markIntN 1).toT) ?_; try with_reducible exact True.intro
      refine useT ((heldIntN 1).toT) ?_; try with_reducible exact True.intro
      refine useT (toIntSS ll h2 h3) ?_; try with_reducible exact True.intro
      refine useT (hI) ?_; try with_reducible exact True.intro
      refine useT ((eqIntS [] [] (by simp)).toT) ?_; try with_reducible exact True.intro
      refine useT ((heldIntN 1).toT) ?_; try with_reducible exact True.intro
end Go.Proofs.YtlglchbkenaekaaTv
end
section
open Go Go.Proofs.YtlglchbkenaekaaVe Go.Proofs.YtlglchbkenaekaaTv Go.Proofs
namespace Go.Proofs.YtlglchbkenaekaaTv
set_option maxRecDepth 8000
set_option maxHeartbeats 2000000
/-- The ends of edges at a vertex, but those of one edge: the edges e, e + 1, .. of the list. -/
def endE (v but : Int) (e : Nat) (r : List Int) : List (Nat × Nat) := if (e : Int) = but then [] else (if rd r 0 = v then [(e, 0)] else []) ++ (if rd r 1 = v then [(e, 1)] else [])
def endsF (v but : Int) : Nat → List (List Int) → List (Nat × Nat)
  | _, [] => []
  | e, r :: rs => endE v but e r ++ endsF v but (e + 1) rs
def ends (ll : List (List Int)) (v but : Int) (k : Nat) : List (Nat × Nat) := endsF v but 0 (ll.take k)
theorem endsF_append (v but : Int) : ∀ (e : Nat) (l m : List (List Int)), endsF v but e (l ++ m) = endsF v but e l ++ endsF v but (e + l.length) m
  | e, [], m => by simp [endsF]
  | e, r :: l, m => by simp [endsF, endsF_append v but (e + 1) l m, Nat.add_assoc, Nat.add_comm 1]
theorem ends_succ {ll : List (List Int)} {v but : Int} {k : Nat} (h : k < ll.length) : ends ll v but (k + 1) = ends ll v but k ++ endE v but k (rdR ll k) := by
  unfold ends
  rw [take_succR h, endsF_append]
  simp [endsF, show min k ll.length = k by omega]
theorem endE_len (v but : Int) (e : Nat) (r : List Int) : (endE v but e r).length ≤ 2 := by
  unfold endE
  split
  · simp
  · split <;> split <;> simp
theorem ends_len {ll : List (List Int)} {v but : Int} : ∀ (k : Nat), k ≤ ll.length → (ends ll v but k).length ≤ 2 * k
  | 0, _ => by simp [ends, endsF]
  | k + 1, h => by
    rw [ends_succ (by omega), List.length_append]
    have := ends_len (ll := ll) (v := v) (but := but) k (by omega)
    have := endE_len v but k (rdR ll k)
    omega
def encE (p : Nat × Nat) : Int := 2 * p.1 + p.2
def agE (p : Nat × Nat) : Int × Int × Unit := (p.1, p.2, ())
theorem endsF_in {v but : Int} : ∀ (e : Nat) (l : List (List Int)), ∀ p ∈ endsF v but e l, e ≤ p.1 ∧ p.1 < e + l.length ∧ p.2 < 2
  | e, [], p, h => by simp [endsF] at h
  | e, r :: l, p, h => by
    simp only [endsF, List.mem_append] at h
    rcases h with h | h
    · unfold endE at h
      split at h
      · simp at h
      · rw [List.mem_append] at h
        rcases h with h | h
        · split at h
          · simp at h; subst h; simp
          · simp at h
        · split at h
          · simp at h; subst h; simp
          · simp at h
    · have := endsF_in (e + 1) l p h
      simp only [List.length_cons]
      omega
theorem rd_bumpE {c e : List Int} {n : Nat} (hl : c.length = n) (h : 0 ≤ rd e 0 ∧ rd e 0 ≤ rd e 1 ∧ rd e 1 < n) {v : Int} (hv : 0 ≤ v) : rd (bumpE c e) v = rd c v + (if v = rd e 0 then 1 else 0) + (if v = rd e 1 then 1 else 0) := by
  have hb : (bump c (rd e 0)).length = n := by simp [bump, hl]
  rw [bumpE, rd_bump (by omega) hv]
  by_cases c1 : v = rd e 1
  · rw [if_pos c1, if_pos c1, rd_bump (by omega) (by omega)]
    by_cases c0 : rd e 1 = rd e 0
    · rw [if_pos c0, if_pos (c1.trans c0), ← c0, ← c1]
    · rw [if_neg c0, if_neg (fun c => c0 (c1.symm.trans c)), ← c1]; omega
  · rw [if_neg c1, if_neg c1, rd_bump (by omega) hv]
    by_cases c0 : v = rd e 0
    · rw [if_pos c0, if_pos c0, ← c0]; omega
    · rw [if_neg c0, if_neg c0]; omega
theorem endE_other {v but : Int} {e : Nat} {r : List Int} (h : ¬ (e : Int) = but) : (endE v but e r).length = (if v = rd r 0 then 1 else 0) + (if v = rd r 1 then 1 else 0) := by
  unfold endE
  rw [if_neg h, List.length_append]
  congr 1
  · by_cases c : v = rd r 0
    · rw [if_pos c, if_pos c.symm]; rfl
    · rw [if_neg c, if_neg (fun d => c d.symm)]; rfl
  · by_cases c : v = rd r 1
    · rw [if_pos c, if_pos c.symm]; rfl
    · rw [if_neg c, if_neg (fun d => c d.symm)]; rfl
/-- Each vertex has three ends. -/
theorem cnt_ends {n : Nat} {ll : List (List Int)} (v : Int) (hv : 0 ≤ v ∧ v < n) (hok : ∀ j : Nat, j < ll.length → rowOk n (rdR ll j) = true) : ∀ k, k ≤ ll.length → rd (cnt n ll k) v = (ends ll v (-1) k).length
  | 0, _ => by
    simp only [cnt, List.take_zero, List.foldl_nil, rd, List.getD_eq_getElem?_getD, List.getElem?_replicate, ends, endsF]
    split <;> simp
  | k + 1, h => by
    have ih := cnt_ends v hv hok k (by omega)
    obtain ⟨r1, r2, r3, r4⟩ := rowOk_facts (hok k (by omega))
    have hl := cnt_length n ll k
    rw [cnt_succ (by omega), rd_bumpE hl ⟨r2, r3, r4⟩ hv.1, ends_succ (by omega), List.length_append, endE_other (by omega), ih]
    split <;> split <;> simp <;> omega
/-- Without the ends of an edge. -/
theorem ends_but {ll : List (List Int)} {v : Int} {e : Nat} : ∀ k, k ≤ ll.length → (ends ll v (-1) k).length = (ends ll v e k).length + if e < k then (endE v (-1) e (rdR ll e)).length else 0
  | 0, _ => by simp [ends, endsF]
  | k + 1, h => by
    have ih := ends_but (ll := ll) (v := v) (e := e) k (by omega)
    rw [ends_succ (by omega), ends_succ (by omega), List.length_append, List.length_append, ih]
    by_cases c : e = k
    · subst c
      have : endE v e e (rdR ll e) = [] := by simp [endE]
      rw [this, if_neg (by omega), if_pos (by omega)]; simp
    · have : (endE v e k (rdR ll k)).length = (endE v (-1) k (rdR ll k)).length := by rw [endE_other (by omega), endE_other (by omega)]
      rw [this]
      by_cases c2 : e < k
      · rw [if_pos c2, if_pos (by omega)]; omega
      · rw [if_neg c2, if_neg (by omega)]; omega
theorem pants_count {g : Int} {ll : List (List Int)} (h : isPants g ll = true) {n : Nat} (hn : 2 * g - 2 = n) (v : Int) (hv : 0 ≤ v ∧ v < n) : rd (cnt n ll ll.length) v = 3 := by
  simp only [isPants, Bool.and_eq_true, decide_eq_true_eq, List.all_eq_true] at h
  have h4 := h.2.2.2.1
  rw [show (2 * g - 2).toNat = n by omega] at h4
  have hl := cnt_length n ll ll.length
  have hm : rd (cnt n ll ll.length) v ∈ cnt n ll ll.length := by
    have : v.toNat < (cnt n ll ll.length).length := by omega
    simp only [rd, List.getD_eq_getElem?_getD, List.getElem?_eq_getElem this, Option.getD_some]
    exact List.getElem_mem _
  exact h4 _ hm
/-- Beside an edge that is no loop, each of its vertices has two more ends. -/
theorem ends_two {g : Int} {ll : List (List Int)} (h : isPants g ll = true) {e : Nat} (he : e < ll.length) (hne : rd (rdR ll e) 0 ≠ rd (rdR ll e) 1) {v : Int} (hv : v = rd (rdR ll e) 0 ∨ v = rd (rdR ll e) 1) : (ends ll v e ll.length).length = 2 := by
  obtain ⟨n, hn, n2, n6, hg, hlen, hl9, hok⟩ := pants_facts h
  obtain ⟨r1, r2, r3, r4⟩ := rowOk_facts (hok e he)
  have hv2 : 0 ≤ v ∧ v < n := by rcases hv with rfl | rfl <;> omega
  have h1 := pants_count h hn v hv2
  rw [cnt_ends v hv2 hok _ (Nat.le_refl _)] at h1
  have h2 := ends_but (ll := ll) (v := v) (e := e) ll.length (Nat.le_refl _)
  rw [if_pos he] at h2
  have h3 : (endE v (-1) e (rdR ll e)).length = 1 := by
    rw [endE_other (by omega)]
    rcases hv with rfl | rfl
    · rw [if_pos rfl, if_neg hne]
    · rw [if_pos rfl, if_neg (fun c => hne c.symm)]
  omega
end Go.Proofs.YtlglchbkenaekaaTv
end
section
open Go Go.Proofs.YtlglchbkenaekaaVe Go.Proofs.YtlglchbkenaekaaTv Go.Proofs
namespace Go.Proofs.YtlglchbkenaekaaTv
set_option maxRecDepth 8000
set_option maxHeartbeats 2000000
theorem l1Min (a b : Int) : ConS Try.prog 97 [.i a, .i b] (.i (min a b)) := by
  refine conS_of hmix hTab Try.func97 rfl rfl (by kernel_rfl) (by show 2 ≤ Try.f97.ntmps; decide) rfl ?_
  refine stp ?_; try with_reducible exact True.intro
  refine Br.mk (fun h => ?_) (fun h => ?_) <;> simp [-Int.ofNat_toNat] at h
  · refine stp ?_; try with_reducible exact True.intro
    rw [Int.min_eq_left (by omega)]
  · refine stp ?_; try with_reducible exact True.intro
    rw [Int.min_eq_right (by omega)]
theorem l1Max (a b : Int) : ConS Try.prog 98 [.i a, .i b] (.i (max a b)) := by
  refine conS_of hmix hTab Try.func98 rfl rfl (by kernel_rfl) (by show 2 ≤ Try.f98.ntmps; decide) rfl ?_
  refine stp ?_; try with_reducible exact True.intro
  refine Br.mk (fun h => ?_) (fun h => ?_) <;> simp [-Int.ofNat_toNat] at h
  · refine stp ?_; try with_reducible exact True.intro
    rw [Int.max_eq_left (by omega)]
  · refine stp ?_; try with_reducible exact True.intro
    rw [Int.max_eq_right (by omega)]
theorem minI_eq (a b : Int) : minI a b = min a b := by unfold minI; split <;> omega
theorem maxI_eq (a b : Int) : maxI a b = max a b := by unfold maxI; split <;> omega
theorem pair (a b : Int) : ConT Try.prog 66 [.i a, .i b] (.own 0 0 2) [.arr (.int .i64) [min a b, max a b] true] := by
  refine conT_of hmix hTab Try.func66 rfl rfl (by kernel_rfl) (by show 2 ≤ Try.f66.ntmps; decide) ?_
  rw [← minI_eq, ← maxI_eq]
  refine stp ?_; try with_reducible exact True.intro
  exact (fitK [] [0])
theorem copyOf (l : List Int) (hl : (l.length : Int) ≤ 274877906944) : ConT Try.prog 99 [.il l] (.own 0 0 l.length) [.arr (.int .i64) l true] := by
  refine conT_of hmix hTab Try.func99 rfl rfl (by kernel_rfl) (by show 1 ≤ Try.f99.ntmps; decide) ?_
  refine stp ?_; try with_reducible exact True.intro
  exact (fitK [] [1])
theorem copyRows (ll : List (List Int)) (hl : (ll.length : Int) ≤ 1048576) (hr : ∀ r ∈ ll, (r.length : Int) ≤ 274877906944) : ConT Try.prog 65 [.ill ll] (.own 0 0 ll.length) [.arr (.list (.int .i64)) ll true] := by
  refine conT_of hmix hTab Try.func65 rfl rfl (by kernel_rfl) (by show 1 ≤ Try.f65.ntmps; decide) ?_
  refine stp ?_; try with_reducible exact True.intro
  refine Or.inl ?_; refine stp ?_; try with_reducible exact True.intro
  refine ⟨Nat, fun i => i ≤ ll.length, fun i => ll.length - i, fun i => [(3, .own 0 0 i), (7, .ill ll), (8, .i ll.length), (9, .i i)], fun i => [.arr (.list (.int .i64)) (ll.take i) true], ⟨0, (fitK [] [0]), Nat.zero_le _⟩, fun i hi => ?_⟩
  dsimp only at hi ⊢
  have htl : (ll.take i).length = i := by simp; omega
  refine stp ?_; try with_reducible exact True.intro
  refine Br.mk (fun h => ?_) (fun h => ?_) <;> simp [-Int.ofNat_toNat] at h
  · have hmem : rdR ll i ∈ ll := by simp [rdR, h]
    refine stp ?_; try with_reducible exact True.intro
    refine useT (copyOf (rdR ll i) (hr _ hmem)) ?_; try with_reducible exact True.intro
    refine Or.inl ⟨_, rfl, rfl, by first | rfl | (simp; done) | (simp; omega), ?_⟩; refine stp ?_; try with_reducible exact True.intro
    refine Or.inl ⟨_, _, rfl, rfl, by decide, rfl, by first | rfl | omega | (simp; done) | (simp; omega), rfl, by first | rfl | omega | (simp; done) | (simp; omega), by first | omega | (simp; omega), ?_⟩; refine stp ?_; try with_reducible exact True.intro
    refine ⟨i + 1, ⟨.frz [], [3], by repeat (first | exact trivial | refine ⟨by first | rfl | (simp [Obj.ren, frzI, -Int.ofNat_toNat]; done) | (simp [Obj.ren, frzI, V.ren, V.rens, V.cells, EnvV.ev, EnvV.upd, mkE, backL, backN, -Int.ofNat_toNat]; done) | (simp [Obj.ren, frzI, -Int.ofNat_toNat]; omega), ?_⟩), ⟨?_, trivial⟩, by decide, rfl, rfl, rfl⟩, h, by first | ((try dsimp only); omega) | (simp; omega)⟩
    rw [take_succR h]
    first | rfl | (simp [Obj.ren, frzI]; done) | (simp [Obj.ren, frzI, rdR]; done)
  · obtain rfl : i = ll.length := by omega
    refine stp ?_; try with_reducible exact True.intro
    exact (fitK [] [0])
theorem l5Copy (ll : List (List Int)) (hl : (ll.length : Int) ≤ 1048576) (hr : ∀ r ∈ ll, (r.length : Int) ≤ 274877906944) : ConT Try.prog 96 [.ill ll] (.own 0 0 ll.length) [.arr (.list (.int .i64)) ll true] := by
  refine conT_of hmix hTab Try.func96 rfl rfl (by kernel_rfl) (by show 1 ≤ Try.f96.ntmps; decide) ?_
  refine stp ?_; try with_reducible exact True.intro
  refine Or.inl ?_; refine stp ?_; try with_reducible exact True.intro
  refine ⟨Nat, fun i => i ≤ ll.length, fun i => ll.length - i, fun i => [(0, .ill ll), (3, .own 0 0 i), (4, .i i)], fun i => [.arr (.list (.int .i64)) (ll.take i) true], ⟨0, (fitK [] [0]), Nat.zero_le _⟩, fun i hi => ?_⟩
  dsimp only at hi ⊢
  have htl : (ll.take i).length = i := by simp; omega
  refine stp ?_; try with_reducible exact True.intro
  refine Br.mk (fun h => ?_) (fun h => ?_) <;> simp [-Int.ofNat_toNat] at h
  · have hmem : rdR ll i ∈ ll := by simp [rdR, h]
    have hrl : (List.length (rdT (.list (.int .i64)) ll (i : Int)) : Int) ≤ 274877906944 := hr _ hmem
    refine stp ?_; try with_reducible exact True.intro
    refine And.intro (by simpa using hrl) ?_
    refine stp ?_; try with_reducible exact True.intro
    refine Or.inl ⟨_, rfl, rfl, by first | rfl | (simp; done) | (simp; omega), ?_⟩; refine stp ?_; try with_reducible exact True.intro
    refine Or.inl ⟨_, _, rfl, rfl, by decide, rfl, by first | rfl | omega | (simp; done) | (simp; omega), rfl, by first | rfl | omega | (simp; done) | (simp; omega), by first | omega | (simp; omega), ?_⟩; refine stp ?_; try with_reducible exact True.intro
    refine ⟨i + 1, ⟨.frz [], [4], by repeat (first | exact trivial | refine ⟨by first | rfl | (simp [Obj.ren, frzI, -Int.ofNat_toNat]; done) | (simp [Obj.ren, frzI, V.ren, V.rens, V.cells, EnvV.ev, EnvV.upd, mkE, backL, backN, -Int.ofNat_toNat]; done) | (simp [Obj.ren, frzI, -Int.ofNat_toNat]; omega), ?_⟩), ⟨?_, trivial⟩, by decide, rfl, rfl, rfl⟩, h, by first | ((try dsimp only); omega) | (simp; omega)⟩
    rw [take_succR h]
    first | rfl | (simp [Obj.ren, frzI]; done) | (simp [Obj.ren, frzI, rdR]; done)
  · obtain rfl : i = ll.length := by omega
    refine stp ?_; try with_reducible exact True.intro
    exact (fitK [] [0])
/-- The ends of an edge that were seen. -/
def endJ (v but : Int) (e : Nat) (r : List Int) (j : Nat) : List (Nat × Nat) := if (e : Int) = but then [] else (if 1 ≤ j ∧ rd r 0 = v then [(e, 0)] else []) ++ (if 2 ≤ j ∧ rd r 1 = v then [(e, 1)] else [])
theorem endJ_zero (v but : Int) (e : Nat) (r : List Int) : endJ v but e r 0 = [] := by simp [endJ]
theorem endJ_two (v but : Int) (e : Nat) (r : List Int) : endJ v but e r 2 = endE v but e r := by simp [endJ, endE]
theorem endJ_succ {v but : Int} {e : Nat} {r : List Int} {j : Nat} (h : j < 2) : endJ v but e r (j + 1) = if (e : Int) ≠ but ∧ rd r j = v then endJ v but e r j ++ [(e, j)] else endJ v but e r j := by
  unfold endJ
  by_cases c : (e : Int) = but
  · simp [c]
  · obtain rfl | rfl : j = 0 ∨ j = 1 := by omega
    · by_cases c0 : rd r 0 = v <;> simp [c, c0]
    · by_cases c0 : rd r 1 = v <;> simp [c, c0]
theorem endJ_len (v but : Int) (e : Nat) (r : List Int) (j : Nat) : (endJ v but e r j).length ≤ 2 := by
  unfold endJ
  split
  · simp
  · split <;> split <;> simp
theorem l19Ends (ll : List (List Int)) (v but : Int) (hl : ll.length ≤ 9) (hr : ∀ j : Nat, j < ll.length → (rdR ll j).length = 2) : ConT Try.prog 95 [.ill ll, .i v, .i but] (.own 0 0 (ends ll v but ll.length).length) [.arr (.int .i64) ((ends ll v but ll.length).map encE) true] := by
  refine conT_of hmix hTab Try.func95 rfl rfl (by kernel_rfl) (by show 3 ≤ Try.f95.ntmps; decide) ?_
  refine stp ?_; try with_reducible exact True.intro
  refine ⟨Nat, fun k => k ≤ ll.length, fun k => ll.length - k, fun k => [(0, .ill ll), (1, .i v), (2, .i but), (7, .own 0 0 (ends ll v but k).length), (8, .i k)], fun k => [.arr (.int .i64) ((ends ll v but k).map encE) true], ⟨0, (fitK [] [0]), Nat.zero_le _⟩, fun k hk => ?_⟩
  dsimp only at hk ⊢
  have hel := ends_len (v := v) (but := but) k hk
  refine stp ?_; try with_reducible exact True.intro
  refine Br.mk (fun h => ?_) (fun h => ?_) <;> simp [-Int.ofNat_toNat] at h
  · have ql : List.length (rdT (.list (.int .i64)) ll (k : Int)) = (rdR ll k).length := rfl; have q0 : @Eq Int (rdT (.int .i64) (rdT (.list (.int .i64)) ll (k : Int)) 0) (rd (rdR ll k) 0) := rfl; have q1 : @Eq Int (rdT (.int .i64) (rdT (.list (.int .i64)) ll (k : Int)) 1) (rd (rdR ll k) 1) := rfl; have qlo : List.length (rdT (.list (.int .i64)) ll (((k : Int).toNat : Nat) : Int)) = (rdR ll k).length := rfl; have q0o : @Eq Int (rdT (.int .i64) (rdT (.list (.int .i64)) ll (((k : Int).toNat : Nat) : Int)) 0) (rd (rdR ll k) 0) := rfl; have q1o : @Eq Int (rdT (.int .i64) (rdT (.list (.int .i64)) ll (((k : Int).toNat : Nat) : Int)) 1) (rd (rdR ll k) 1) := rfl
    have hr2 := hr k h
    have hs := ends_succ (v := v) (but := but) h
    refine stp ?_; try with_reducible exact True.intro
    refine ⟨Nat, fun j => j ≤ 2, fun j => 2 - j, fun j => [(0, .ill ll), (1, .i v), (2, .i but), (7, .own 0 0 (ends ll v but k ++ endJ v but k (rdR ll k) j).length), (8, .i k), (9, .i j)], fun j => [.arr (.int .i64) ((ends ll v but k ++ endJ v but k (rdR ll k) j).map encE) true], ⟨0, ?_, Nat.zero_le _⟩, fun j hj => ?_⟩
    · dsimp only
      rw [endJ_zero, List.append_nil]
      exact (fitK [] [0])
    dsimp only at hj ⊢
    have hjl := endJ_len v but k (rdR ll k) j
    have hll : (ends ll v but k ++ endJ v but k (rdR ll k) j).length ≤ 20 := by simp; omega
    have hq : @Eq Int (rdT (.int .i64) (rdT (.list (.int .i64)) ll (k : Int)) (j : Int)) (rd (rdR ll k) j) := rfl
    refine stp ?_; try with_reducible exact True.intro
    refine Br.mk (fun h2 => ?_) (fun h2 => ?_) <;> simp [-Int.ofNat_toNat] at h2
    · have hsj := endJ_succ (v := v) (but := but) (e := k) (r := rdR ll k) (by omega : j < 2)
      refine stp ?_; try with_reducible exact True.intro
      refine Br.mk (fun h3 => ?_) (fun h3 => ?_) <;> simp [-Int.ofNat_toNat] at h3
      · refine stp ?_; try with_reducible exact True.intro
        refine Br.mk (fun h4 => ?_) (fun h4 => ?_) <;> simp [-Int.ofNat_toNat] at h4
        · rw [if_pos ⟨h3, h4⟩] at hsj
          refine stp ?_; try with_reducible exact True.intro
          refine ⟨j + 1, ⟨.frz [], [2], ⟨rfl, rfl, rfl, ?_, rfl, rfl, trivial⟩, ⟨?_, trivial⟩, by decide, rfl, rfl, rfl⟩, by first | ((try dsimp only); omega) | (simp; omega), by first | ((try dsimp only); omega) | (simp; omega)⟩
          · simp [hsj, V.ren, EnvV.ev, EnvV.upd]; omega
          · simp [hsj, Obj.ren, frzI, List.take_of_length_le, encE]
        · rw [if_neg (fun c => h4 c.2)] at hsj
          refine stp ?_; try with_reducible exact True.intro
          refine ⟨j + 1, ⟨.frz [], [0], ⟨rfl, rfl, rfl, by rw [hsj]; rfl, rfl, rfl, trivial⟩, ⟨by rw [hsj]; rfl, trivial⟩, by decide, rfl, rfl, rfl⟩, by first | ((try dsimp only); omega) | (simp; omega), by first | ((try dsimp only); omega) | (simp; omega)⟩
      · rw [if_neg (fun c => c.1 h3)] at hsj
        refine stp ?_; try with_reducible exact True.intro
        refine ⟨j + 1, ⟨.frz [], [0], ⟨rfl, rfl, rfl, by rw [hsj]; rfl, rfl, rfl, trivial⟩, ⟨by rw [hsj]; rfl, trivial⟩, by decide, rfl, rfl, rfl⟩, by first | ((try dsimp only); omega) | (simp; omega), by first | ((try dsimp only); omega) | (simp; omega)⟩
    · obtain rfl : j = 2 := by omega
      refine stp ?_; try with_reducible exact True.intro
      refine ⟨k + 1, ⟨.frz [], [0], ⟨rfl, rfl, rfl, by rw [hs, ← endJ_two]; rfl, rfl, trivial⟩, ⟨by rw [hs, ← endJ_two]; rfl, trivial⟩, by decide, rfl, rfl, rfl⟩, h, by first | ((try dsimp only); omega) | (simp; omega)⟩
  · obtain rfl : k = ll.length := by omega
    refine stp ?_; try with_reducible exact True.intro
    exact (fitK [] [0])
theorem otherEnds (ll : List (List Int)) (v but : Int) (hl : ll.length ≤ 9) (hr : ∀ j : Nat, j < ll.length → (rdR ll j).length = 2) : ConT Try.prog 64 [.ill ll, .i v, .i but] (.own 0 0 (ends ll v but ll.length).length) [.arr (.pair (.int .i64) (.pair (.int .i64) .unit)) ((ends ll v but ll.length).map agE) true] := by
  refine conT_of hmix hTab Try.func64 rfl rfl (by kernel_rfl) (by show 3 ≤ Try.f64.ntmps; decide) ?_
  refine stp ?_; try with_reducible exact True.intro
  refine ⟨Nat, fun k => k ≤ ll.length, fun k => ll.length - k, fun k => [(1, .i v), (2, .i but), (7, .own 0 0 (ends ll v but k).length), (12, .ill ll), (13, .i ll.length), (14, .i k)], fun k => [.arr (.pair (.int .i64) (.pair (.int .i64) .unit)) ((ends ll v but k).map agE) true], ⟨0, (fitK [] [0]), Nat.zero_le _⟩, fun k hk => ?_⟩
  dsimp only at hk ⊢
  have hel := ends_len (v := v) (but := but) k hk
  refine stp ?_; try with_reducible exact True.intro
  refine Br.mk (fun h => ?_) (fun h => ?_) <;> simp [-Int.ofNat_toNat] at h
  · have ql : List.length (rdT (.list (.int .i64)) ll (k : Int)) = (rdR ll k).length := rfl; have q0 : @Eq Int (rdT (.int .i64) (rdT (.list (.int .i64)) ll (k : Int)) 0) (rd (rdR ll k) 0) := rfl; have q1 : @Eq Int (rdT (.int .i64) (rdT (.list (.int .i64)) ll (k : Int)) 1) (rd (rdR ll k) 1) := rfl; have qlo : List.length (rdT (.list (.int .i64)) ll (((k : Int).toNat : Nat) : Int)) = (rdR ll k).length := rfl; have q0o : @Eq Int (rdT (.int .i64) (rdT (.list (.int .i64)) ll (((k : Int).toNat : Nat) : Int)) 0) (rd (rdR ll k) 0) := rfl; have q1o : @Eq Int (rdT (.int .i64) (rdT (.list (.int .i64)) ll (((k : Int).toNat : Nat) : Int)) 1) (rd (rdR ll k) 1) := rfl
    have hr2 := hr k h
    have hs := ends_succ (v := v) (but := but) h
    refine stp ?_; try with_reducible exact True.intro
    refine ⟨Nat, fun j => j ≤ 2, fun j => 2 - j, fun j => [(1, .i v), (2, .i but), (7, .own 0 0 (ends ll v but k ++ endJ v but k (rdR ll k) j).length), (8, .i k), (9, .il (rdR ll k)), (12, .ill ll), (13, .i ll.length), (14, .i k), (19, .i j)], fun j => [.arr (.pair (.int .i64) (.pair (.int .i64) .unit)) ((ends ll v but k ++ endJ v but k (rdR ll k) j).map agE) true], ⟨0, ?_, Nat.zero_le _⟩, fun j hj => ?_⟩
    · dsimp only
      rw [endJ_zero, List.append_nil]
      exact (fitK [] [0])
    dsimp only at hj ⊢
    have hjl := endJ_len v but k (rdR ll k) j
    have hll : (ends ll v but k ++ endJ v but k (rdR ll k) j).length ≤ 20 := by simp; omega
    refine stp ?_; try with_reducible exact True.intro
    refine Br.mk (fun h2 => ?_) (fun h2 => ?_) <;> simp [-Int.ofNat_toNat] at h2
    · have hsj := endJ_succ (v := v) (but := but) (e := k) (r := rdR ll k) (by omega : j < 2)
      refine stp ?_; try with_reducible exact True.intro
      refine Br.mk (fun h3 => ?_) (fun h3 => ?_) <;> simp [-Int.ofNat_toNat] at h3
      · refine stp ?_; try with_reducible exact True.intro
        refine Br.mk (fun h4 => ?_) (fun h4 => ?_) <;> simp [-Int.ofNat_toNat] at h4
        · rw [if_pos ⟨h3, h4⟩] at hsj
          refine stp ?_; try with_reducible exact True.intro
          refine ⟨j + 1, ⟨.frz [], [2], ⟨rfl, rfl, ?_, rfl, rfl, rfl, rfl, rfl, rfl, trivial⟩, ⟨?_, trivial⟩, by decide, rfl, rfl, rfl⟩, by first | ((try dsimp only); omega) | (simp; omega), by first | ((try dsimp only); omega) | (simp; omega)⟩
          · simp [hsj, V.ren, EnvV.ev, EnvV.upd]; omega
          · simp [hsj, Obj.ren, frzI, List.take_of_length_le, agE]
        · rw [if_neg (fun c => h4 c.2)] at hsj
          refine stp ?_; try with_reducible exact True.intro
          refine ⟨j + 1, ⟨.frz [], [0], ⟨rfl, rfl, by rw [hsj]; rfl, rfl, rfl, rfl, rfl, rfl, rfl, trivial⟩, ⟨by rw [hsj]; rfl, trivial⟩, by decide, rfl, rfl, rfl⟩, by first | ((try dsimp only); omega) | (simp; omega), by first | ((try dsimp only); omega) | (simp; omega)⟩
      · rw [if_neg (fun c => c.1 h3)] at hsj
        refine stp ?_; try with_reducible exact True.intro
        refine ⟨j + 1, ⟨.frz [], [0], ⟨rfl, rfl, by rw [hsj]; rfl, rfl, rfl, rfl, rfl, rfl, rfl, trivial⟩, ⟨by rw [hsj]; rfl, trivial⟩, by decide, rfl, rfl, rfl⟩, by first | ((try dsimp only); omega) | (simp; omega), by first | ((try dsimp only); omega) | (simp; omega)⟩
    · obtain rfl : j = 2 := by omega
      refine stp ?_; try with_reducible exact True.intro
      refine ⟨k + 1, ⟨.frz [], [0], ⟨rfl, rfl, by rw [hs, ← endJ_two]; rfl, rfl, rfl, rfl, trivial⟩, ⟨by rw [hs, ← endJ_two]; rfl, trivial⟩, by decide, rfl, rfl, rfl⟩, h, by first | ((try dsimp only); omega) | (simp; omega)⟩
  · obtain rfl : k = ll.length := by omega
    refine stp ?_; try with_reducible exact True.intro
    exact (fitK [] [0])
end Go.Proofs.YtlglchbkenaekaaTv
end
