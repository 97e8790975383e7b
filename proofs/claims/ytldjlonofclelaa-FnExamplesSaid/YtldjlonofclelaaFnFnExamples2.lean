/- What functions of the program give: each contract holds for all arguments that its own sentence names. -/
import Derived.Test.YtldjlonofclelaaFnFnExamples1
set_option linter.unusedVariables false
set_option linter.unusedSimpArgs false
section
open Go Go.Proofs.YtldjlonofclelaaVe Go.Proofs.YtldjlonofclelaaTv Go.Proofs
namespace Go.Proofs.YtldjlonofclelaaTv
set_option maxRecDepth 8000
set_option maxHeartbeats 2000000
def exR : List ByteArray := [⟨#[97, 98, 99, 32, 65, 66, 67]⟩, ⟨#[97, 98, 99, 32, 65, 67, 66]⟩, ⟨#[97, 98, 99, 32, 65, 100, 101, 32, 66, 68, 102, 32, 67, 70, 69]⟩, ⟨#[97, 98, 67, 32, 66, 100, 101, 32, 99, 68, 102, 32, 65, 69, 70]⟩, ⟨#[97, 98, 99, 32, 65, 100, 101, 32, 102, 66, 103, 32, 68, 69, 104, 32, 67, 72, 105, 32, 70, 73, 71]⟩]
def triText (k : Int) : ByteArray := if 1 ≤ k ∧ k ≤ 5 then rdT .str exR (k - 1) else ⟨#[]⟩
theorem triText_small (k : Int) : (triText k).size ≤ 36 := by
  unfold triText
  split
  · have : k = 1 ∨ k = 2 ∨ k = 3 ∨ k = 4 ∨ k = 5 := by omega
    rcases this with rfl | rfl | rfl | rfl | rfl <;> decide
  · decide
theorem parseT_empty : parseT ⟨#[]⟩ = none := by decide +kernel
def exTri (k : Int) : Option (List (List Int)) := parseT (triText k)
theorem l23TextT (k : Int) : ConT Try.prog 51 [.val (.list .str) exR, .i k] (.s (triText k)) [] := by
  refine conT_of hmix hTab Try.func51 rfl rfl (by kernel_rfl) (by show 2 ≤ Try.f51.ntmps; decide) ?_
  refine stp ?_; try with_reducible exact True.intro
  refine useT ((l1In k 1 5).toT) ?_; try with_reducible exact True.intro
  by_cases h : 1 ≤ k ∧ k ≤ 5
  · have he : triText k = rdT .str exR (k - 1) := if_pos h
    have hl : List.length exR = 5 := rfl
    rw [he]
    simp only [h, and_self, decide_true]
    refine stp ?_; try with_reducible exact True.intro
    exact (fitK [] [])
  · have he : triText k = ⟨#[]⟩ := if_neg h
    rw [he]
    simp only [h, decide_false]
    refine stp ?_; try with_reducible exact True.intro
    exact (fitK [] [])
theorem ExampleTriS (k : Int) : ConT Try.prog 11 [.i k] (resG0 (exTri k)) (obG0 (exTri k)) := by
  refine conT_of hmix hTab Try.func11 rfl rfl (by kernel_rfl) (by show 1 ≤ Try.f11.ntmps; decide) ?_
  have hp := ParseTriS (triText k) (triText_small k)
  have he : exTri k = parseT (triText k) := rfl
  rw [he]
  refine stp ?_; try with_reducible exact True.intro
  refine useT (l23TextT k) ?_; try with_reducible exact True.intro
  cases hc : parseT (triText k) with
  | none =>
    rw [hc] at hp
    simp only [resG0, obG0] at hp
    refine useT (hp) ?_; try with_reducible exact True.intro
    exact (fitK [] [1])
  | some g =>
    rw [hc] at hp
    simp only [resG0, obG0] at hp
    refine useT (hp) ?_; try with_reducible exact True.intro
    exact (fitK [] [1])
theorem ExampleTriI (k : Int) : ConT Try.prog 10 [.i k] (resG (exTri k)) (obG (exTri k)) := by
  refine conT_of hmix hTab Try.func10 rfl rfl (by kernel_rfl) (by show 1 ≤ Try.f10.ntmps; decide) ?_
  have hp := ParseTriI (triText k) (triText_small k)
  have he : exTri k = parseT (triText k) := rfl
  rw [he]
  refine stp ?_; try with_reducible exact True.intro
  refine useT ((within k 1 5).toT) ?_; try with_reducible exact True.intro
  by_cases h : 1 ≤ k ∧ k ≤ 5
  · have hx : triText k = rdT .str exR (k - 1) := if_pos h
    rw [hx] at hp ⊢
    simp only [h, and_self, decide_true]
    cases hc : parseT (rdT .str exR (k - 1)) with
    | none =>
      rw [hc] at hp
      simp only [resG, obG] at hp
      refine stp ?_; try with_reducible exact True.intro
      refine useT (hp) ?_; try with_reducible exact True.intro
      exact (fitK [] [])
    | some g =>
      rw [hc] at hp
      simp only [resG, obG] at hp
      refine stp ?_; try with_reducible exact True.intro
      refine useT (hp) ?_; try with_reducible exact True.intro
      exact (fitK [] [1])
  · have hx : triText k = ⟨#[]⟩ := if_neg h
    rw [hx, parseT_empty]
    simp only [h, decide_false]
    refine stp ?_; try with_reducible exact True.intro
    exact (fitK [] [])
theorem wordsT_row {ps : List ByteArray} : ∀ (k : Nat) (l : List (List Int)), wordsT ps k = some l → l.length = k
  | 0, l, h => by
    injection h with h
    rw [← h]; rfl
  | k + 1, l, h => by
    unfold wordsT at h
    split at h
    · rename_i l0 w h1 h2
      injection h with h
      have := wordsT_row k l0 h1
      rw [← h]; simp [this]
    · cases h
theorem exTri_facts {k : Int} {g : List (List Int)} (h : exTri k = some g) : g.length ≤ 37 ∧ (∀ r ∈ g, r.length ≤ 36) := by
  unfold exTri parseT at h
  have hsz := triText_small k
  split at h
  · rename_i l hl
    split at h
    · injection h with h
      subst h
      have h1 := wordsT_row _ _ hl
      have h2 := split_len (triText k) 32
      exact ⟨by omega, (wordsT_len (fun q hq => Nat.le_trans (split_size q hq) hsz) _ _ (Nat.le_refl _) hl).2⟩
    · cases h
  · cases h
end Go.Proofs.YtldjlonofclelaaTv
end
section
open Go Go.Proofs.YtldjlonofclelaaVe Go.Proofs.YtldjlonofclelaaTv Go.Proofs
namespace Go.Proofs.YtldjlonofclelaaTv
set_option maxRecDepth 8000
set_option maxHeartbeats 2000000
theorem rd_own (l : List Int) (x : Int) : rd l ((x.toNat : Nat) : Int) = rd l x := rfl
def szS (l : List Int) (left : Int) : Int := if left - l.length < 0 then -1 else left - l.length
def szR : List (List Int) → Int → Int
  | [], left => left
  | r :: rs, left => if szS r left < 0 then -1 else szR rs (szS r left)
def szSS (ll : List (List Int)) (left : Int) : Int := if left - ll.length < 0 then -1 else szR ll (left - ll.length)
theorem szSS_facts {ll : List (List Int)} {left : Int} (hb : left ≤ 1048576) (h : 0 ≤ szSS ll left) : (ll.length : Int) ≤ 1048576 ∧ ∀ r ∈ ll, (r.length : Int) ≤ 1048576 := by
  unfold szSS at h
  split at h
  · omega
  · rename_i h1
    refine ⟨by omega, ?_⟩
    have : ∀ (l : List (List Int)) (lf : Int), 0 ≤ lf → lf ≤ 1048576 → 0 ≤ szR l lf → ∀ r ∈ l, (r.length : Int) ≤ 1048576 := by
      intro l
      induction l with
      | nil => simp
      | cons r l ih =>
        intro lf h0 h1 h2 x hx
        unfold szR at h2
        split at h2
        · omega
        · rename_i h3
          have h4 : szS r lf = lf - r.length := by
            unfold szS at h3 ⊢
            split
            · rename_i h5; simp [h5] at h3
            · rfl
          rcases List.mem_cons.1 hx with rfl | hx
          · omega
          · exact ih _ (by omega) (by omega) h2 x hx
    exact this ll _ (by omega) (by omega) h
theorem szSS_le {ll : List (List Int)} {left : Int} (hb : left ≤ 1048576) : szSS ll left ≤ 1048576 := by
  unfold szSS
  split
  · omega
  · have : ∀ (l : List (List Int)) (lf : Int), lf ≤ 1048576 → szR l lf ≤ 1048576 := by
      intro l
      induction l with
      | nil => exact fun lf h => h
      | cons r l ih =>
        intro lf h
        unfold szR
        split
        · omega
        · refine ih _ ?_
          unfold szS
          split <;> omega
    exact this _ _ (by omega)
end Go.Proofs.YtldjlonofclelaaTv
end
section
open Go Go.Proofs.YtldjlonofclelaaVe Go.Proofs.YtldjlonofclelaaTv Go.Proofs
namespace Go.Proofs.YtldjlonofclelaaTv
set_option maxRecDepth 8000
set_option maxHeartbeats 2000000
theorem l3Find {n : Nat} {up : List Int} {f : Int → Int} (hF : Fo n up f) (x : Int) (hx : InR n x) : ConS Try.prog 116 [.il up, .i x] (.i (f x)) := by
  refine conS_of hmix hTab Try.func116 rfl rfl (by kernel_rfl) (by show 2 ≤ Try.f116.ntmps; decide) rfl ?_
  have hlen := hF.len
  obtain ⟨d0, hd0⟩ := hF.path x hx
  refine stp ?_; try with_reducible exact True.intro
  refine ⟨Nat × Int, fun a => InR n a.2 ∧ itr up a.1 a.2 = f x, fun a => a.1, fun a => [(0, .il up), (1, .i a.2)], fun a => [], ⟨(d0, x), (fitK [] []), hx, hd0⟩, fun ⟨d, y⟩ ⟨hy, hd⟩ => ?_⟩
  dsimp only at hy hd ⊢
  have hy1 := hy.1
  have hy2 : y < (up.length : Int) := by rw [hlen]; exact hy.2
  refine stp ?_; try with_reducible exact True.intro
  refine Br.mk (fun h => ?_) (fun h => ?_) <;> simp [-Int.ofNat_toNat] at h
  · refine stp ?_; try with_reducible exact True.intro
    cases d with
    | zero => exact absurd (by have h := hF.fix x hx; simp only [itr] at hd; rw [hd]; exact h) h
    | succ d => exact ⟨(d, rd up y), (fitK [] []), ⟨hF.inn y hy, hd⟩, by first | ((try dsimp only); omega) | (simp; omega)⟩
  · refine stp ?_; try with_reducible exact True.intro
    rw [← hd, itr_fix h d]
/-- The joins of the first k rows, but for the one that is skipped. -/
def jl (skip : Int) (ll : List (List Int)) : Nat → Int → Int
  | 0 => id
  | k + 1 => if (k : Int) = skip then jl skip ll k else joinF (jl skip ll k) (rd (rdR ll k) 0) (rd (rdR ll k) 1)
/-- Rows of two numbers below n. -/
def Ends (n : Nat) (ll : List (List Int)) : Prop := ∀ k : Nat, k < ll.length → (rdR ll k).length = 2 ∧ InR n (rd (rdR ll k) 0) ∧ InR n (rd (rdR ll k) 1)
theorem ints_succ (i : Nat) : ints (i + 1) = ints i ++ [(i : Int)] := by simp [ints, List.range_succ]
@[simp] theorem ints_len (i : Nat) : (ints i).length = i := by simp [ints]
theorem roots_succ (f : Int → Int) (i : Nat) : (rootsOf (i + 1) f).length = (rootsOf i f).length + if f i = i then 1 else 0 := by
  unfold rootsOf
  rw [ints_succ, List.filter_append, List.length_append]
  by_cases h : f i = i <;> simp [h]
theorem roots_len (f : Int → Int) (i : Nat) : (rootsOf i f).length ≤ i := by
  have := List.length_filter_le (fun x => f x == x) (ints i)
  rw [ints_len] at this
  exact this
theorem l19Joined (n : Nat) (ll : List (List Int)) (skip : Int) (hn : n ≤ 100000) (hll : (ll.length : Int) ≤ 1048576) (hE : Ends n ll) : ConS Try.prog 62 [.i n, .ill ll, .i skip] (.b (decide ((rootsOf n (jl skip ll ll.length)).length = 1))) := by
  refine conS_of hmix hTab Try.func62 rfl rfl (by kernel_rfl) (by show 3 ≤ Try.f62.ntmps; decide) rfl ?_
  refine stp ?_; try with_reducible exact True.intro
  refine ⟨Nat, fun i => i ≤ n, fun i => n - i, fun i => [(0, .i n), (1, .ill ll), (2, .i skip), (7, .own 0 0 i), (8, .i i)], fun i => [.arr (.int .i64) (ints i) true], ⟨0, (fitK [] [0]), Nat.zero_le _⟩, fun i hi => ?_⟩
  dsimp only at hi ⊢
  refine stp ?_; try with_reducible exact True.intro
  refine Br.mk (fun h => ?_) (fun h => ?_) <;> simp [-Int.ofNat_toNat] at h
  · refine stp ?_; try with_reducible exact True.intro
    exact ⟨i + 1, ⟨.frz [], [2], ⟨rfl, rfl, rfl, rfl, rfl, trivial⟩, ⟨by simp [Obj.ren, frzI, ints_succ, List.take_of_length_le], trivial⟩, by decide, rfl, rfl, rfl⟩, by first | ((try dsimp only); omega) | (simp; omega), by first | ((try dsimp only); omega) | (simp; omega)⟩
  · refine stp ?_; try with_reducible exact True.intro
    obtain rfl : i = n := by omega
    refine ⟨Nat × List Int, fun a => a.1 ≤ ll.length ∧ Fo i a.2 (jl skip ll a.1), fun a => ll.length - a.1, fun a => [(0, .i i), (1, .ill ll), (2, .i skip), (7, .own 0 0 i), (9, .i a.1)], fun a => [.arr (.int .i64) a.2 true], ⟨(0, ints i), (fitK [] [0]), Nat.zero_le _, Fo.init i⟩, fun ⟨k, up⟩ ⟨hk, hF⟩ => ?_⟩
    dsimp only at hk hF ⊢
    have hlen := hF.len
    refine stp ?_; try with_reducible exact True.intro
    refine Br.mk (fun h1 => ?_) (fun h1 => ?_) <;> simp [-Int.ofNat_toNat] at h1
    · obtain ⟨e1, e2, e3⟩ := hE k h1
      have e1' : List.length (rdT (.list (.int .i64)) ll (k : Int)) = 2 := e1
      refine stp ?_; try with_reducible exact True.intro
      refine Br.mk (fun h2 => ?_) (fun h2 => ?_) <;> simp [-Int.ofNat_toNat] at h2
      · have hj : jl skip ll (k + 1) = joinF (jl skip ll k) (rd (rdR ll k) 0) (rd (rdR ll k) 1) := by rw [jl, if_neg h2]
        have hg0 := hF.rng _ e2
        have hg1 := hg0.1
        have hg2 : jl skip ll k (rd (rdR ll k) 0) < (up.length : Int) := by rw [hlen]; exact hg0.2
        refine stp ?_; try with_reducible exact True.intro
        refine .inl ⟨_, _, l3Find hF _ e2, by repeat (first | exact trivial | refine ⟨by first | exact rfl | exact trivial | exact ⟨_, rfl, rfl⟩ | exact ⟨_, _, rfl, by first | (simp; done) | (simp; omega), by first | (simp; done) | (simp [List.take_of_length_le]; done) | (rw [List.drop_zero]; exact List.take_of_length_le (by first | omega | (simp; omega))) | (simp [List.take_of_length_le]; omega)⟩ | exact ⟨_, rfl, by first | (simp; done) | (simp; omega), by first | (simp; done) | (simp [List.take_of_length_le]; done) | (rw [List.drop_zero]; exact List.take_of_length_le (by first | omega | (simp; omega))) | (simp [List.take_of_length_le]; omega)⟩, ?_⟩), ?_⟩; refine stp ?_; try with_reducible exact True.intro
        refine .inl ⟨_, _, l3Find hF _ e3, by repeat (first | exact trivial | refine ⟨by first | exact rfl | exact trivial | exact ⟨_, rfl, rfl⟩ | exact ⟨_, _, rfl, by first | (simp; done) | (simp; omega), by first | (simp; done) | (simp [List.take_of_length_le]; done) | (rw [List.drop_zero]; exact List.take_of_length_le (by first | omega | (simp; omega))) | (simp [List.take_of_length_le]; omega)⟩ | exact ⟨_, rfl, by first | (simp; done) | (simp; omega), by first | (simp; done) | (simp [List.take_of_length_le]; done) | (rw [List.drop_zero]; exact List.take_of_length_le (by first | omega | (simp; omega))) | (simp [List.take_of_length_le]; omega)⟩, ?_⟩), ?_⟩; refine stp ?_; try with_reducible exact True.intro
        exact ⟨(k + 1, up.set (jl skip ll k (rd (rdR ll k) 0)).toNat (jl skip ll k (rd (rdR ll k) 1))), (fitK [] [0]), ⟨h1, by rw [hj]; exact hF.join e2 e3⟩, by first | ((try dsimp only); omega) | (simp; omega)⟩
      · have hj : jl skip ll (k + 1) = jl skip ll k := by rw [jl, if_pos h2]
        refine stp ?_; try with_reducible exact True.intro
        exact ⟨(k + 1, up), (fitK [] [0]), ⟨h1, by rw [hj]; exact hF⟩, by first | ((try dsimp only); omega) | (simp; omega)⟩
    · refine stp ?_; try with_reducible exact True.intro
      obtain rfl : k = ll.length := by omega
      generalize hg : jl skip ll ll.length = f at *
      refine ⟨Nat, fun k => k ≤ i, fun k => i - k, fun k => [(0, .i i), (7, .own 0 0 i), (10, .i (rootsOf k f).length), (11, .i k)], fun k => [.arr (.int .i64) up true], ⟨0, (fitK [] [0]), Nat.zero_le _⟩, fun k hk => ?_⟩
      dsimp only at hk ⊢
      have hrl := roots_len f k
      refine stp ?_; try with_reducible exact True.intro
      refine Br.mk (fun h3 => ?_) (fun h3 => ?_) <;> simp [-Int.ofNat_toNat] at h3
      · refine stp ?_; try with_reducible exact True.intro
        refine useT ((l1Bit _).toT) ?_; try with_reducible exact True.intro
        have hr := hF.root (x := k) ⟨by omega, by omega⟩
        have hs := roots_succ f k
        have e4 : (((k : Int).toNat : Nat) : Int) = k := by omega
        refine ⟨k + 1, ⟨.frz [], [0], ⟨rfl, rfl, ?_, rfl, trivial⟩, ⟨rfl, trivial⟩, by decide, rfl, rfl, rfl⟩, by first | ((try dsimp only); omega) | (simp; omega), by first | ((try dsimp only); omega) | (simp; omega)⟩
        show V.i (((rootsOf k f).length : Int) + (if decide (rd up (((k : Int).toNat : Nat) : Int) = (k : Int)) = true then 1 else 0)) = V.i ((rootsOf (k + 1) f).length : Int)
        rw [e4, hs]
        by_cases c : f k = k
        · rw [if_pos c, if_pos (by simpa using hr.2 c)]; simp
        · rw [if_neg c, if_neg (by simpa using fun h => c (hr.1 h))]; simp
      · refine stp ?_; try with_reducible exact True.intro
        obtain rfl : k = i := by omega
        have e5 : (((rootsOf k f).length : Nat) : Int) = 1 ↔ (rootsOf k f).length = 1 := by omega
        simp only [e5]
end Go.Proofs.YtldjlonofclelaaTv
end
section
open Go Go.Proofs.YtldjlonofclelaaVe Go.Proofs.YtldjlonofclelaaTv Go.Proofs
namespace Go.Proofs.YtldjlonofclelaaTv
set_option maxRecDepth 8000
set_option maxHeartbeats 2000000
/-- The joiner: a struct that holds its list. -/
@[simp] def sJ (up : List Int) : List Obj := [.vars [.own 1 0 up.length], .arr (.int .i64) up true]
def sJ0 : Nat → List Obj
  | 0 => [.vars [.nil (.int .i64)]]
  | i + 1 => sJ (ints (i + 1))
theorem newJoiner (n : Nat) (hn : 1 ≤ n ∧ n ≤ 100000) : ConT Try.prog 143 [.i n] (.pcell 0 0) (sJ (ints n)) := by
  refine conT_of hmix hTab Try.func143 rfl rfl (by kernel_rfl) (by show 1 ≤ Try.f143.ntmps; decide) ?_
  refine stp ?_; try with_reducible exact True.intro
  refine ⟨Nat, fun i => i ≤ n, fun i => n - i, fun i => [(3, .pcell 0 0), (7, .i n), (8, .i i)], sJ0, ⟨0, (fitK [] [0]), Nat.zero_le _⟩, fun i hi => ?_⟩
  dsimp only at hi ⊢
  cases i with
  | zero =>
    refine stp ?_; try with_reducible exact True.intro
    refine Br.mk (fun h => ?_) (fun h => ?_) <;> simp [-Int.ofNat_toNat] at h
    · refine stp ?_; try with_reducible exact True.intro
      intro _
      refine stp ?_; try with_reducible exact True.intro
      exact ⟨1, (fitK [] [0, 2]), by first | ((try dsimp only); omega) | (simp; omega), by first | ((try dsimp only); omega) | (simp; omega)⟩
    · omega
  | succ i =>
    refine stp ?_; try with_reducible exact True.intro
    refine Br.mk (fun h => ?_) (fun h => ?_) <;> simp [-Int.ofNat_toNat] at h
    · refine stp ?_; try with_reducible exact True.intro
      exact ⟨i + 1 + 1, ⟨.frz [], [0, 3], ⟨rfl, rfl, rfl, trivial⟩, ⟨by simp [Obj.ren, frzI, ints_succ, V.rens, V.ren, V.cells, EnvV.ev, EnvV.upd, mkE], by simp [Obj.ren, frzI, ints_succ, List.take_of_length_le], trivial⟩, by decide, rfl, rfl, rfl⟩, by first | ((try dsimp only); omega) | (simp; omega), by first | ((try dsimp only); omega) | (simp; omega)⟩
    · refine stp ?_; try with_reducible exact True.intro
      obtain rfl : n = i + 1 := by omega
      exact (fitK [] [0, 1])
theorem top {n : Nat} {up : List Int} {f : Int → Int} (hF : Fo n up f) (x : Int) (hx : InR n x) : ConI Try.prog 152 [.pcell 0 0, .i x] (sJ up) (.i (f x)) (sJ up) := by
  refine conI_of hmix hTab Try.func152 rfl rfl (by kernel_rfl) (by show 2 ≤ Try.f152.ntmps; decide) ?_
  have hlen := hF.len
  obtain ⟨d0, hd0⟩ := hF.path x hx
  refine stp ?_; try with_reducible exact True.intro
  refine ⟨Nat × Int, fun a => InR n a.2 ∧ itr up a.1 a.2 = f x, fun a => a.1, fun a => [(0, .pcell 0 0), (1, .i a.2)], fun a => sJ up, ⟨(d0, x), (fitK [] [0, 1]), hx, hd0⟩, fun ⟨d, y⟩ ⟨hy, hd⟩ => ?_⟩
  dsimp only at hy hd ⊢
  have hy1 := hy.1
  have hy2 : y < (up.length : Int) := by rw [hlen]; exact hy.2
  refine stp ?_; try with_reducible exact True.intro
  refine Br.mk (fun h => ?_) (fun h => ?_) <;> simp [-Int.ofNat_toNat] at h
  · refine stp ?_; try with_reducible exact True.intro
    cases d with
    | zero => exact absurd (by have h := hF.fix x hx; simp only [itr] at hd; rw [hd]; exact h) h
    | succ d => exact ⟨(d, rd up y), (fitK [] [0, 1]), ⟨hF.inn y hy, hd⟩, by first | ((try dsimp only); omega) | (simp; omega)⟩
  · refine stp ?_; try with_reducible exact True.intro
    rw [← hd, itr_fix h d]
    exact (fitK [] [0, 1])
theorem join {n : Nat} {up : List Int} {f : Int → Int} (hF : Fo n up f) (a b : Int) (ha : InR n a) (hb : InR n b) : ∃ up' f', Fo n up' f' ∧ (∀ g, Ker n f g → Ker n f' (joinF g a b)) ∧ ConI Try.prog 144 [.pcell 0 0, .i a, .i b] (sJ up) (.tup []) (sJ up') := by
  have hlen := hF.len
  have ra := hF.rng a ha
  have rb := hF.rng b hb
  have ra1 := ra.1
  have ra2 : f a < (up.length : Int) := by rw [hlen]; exact ra.2
  have rb1 := rb.1
  have rb2 : f b < (up.length : Int) := by rw [hlen]; exact rb.2
  by_cases hc : f a > f b
  · refine ⟨up.set (f a).toNat (f b), joinF f a b, hF.join ha hb, fun g hg => hg.join ha hb, ?_⟩
    refine conI_of hmix hTab Try.func144 rfl rfl (by kernel_rfl) (by show 3 ≤ Try.f144.ntmps; decide) ?_
    refine stp ?_; try with_reducible exact True.intro
    refine useI [0, 1] (top hF a ha) ?_; try with_reducible exact True.intro
    refine useI [0, 1] (top hF b hb) ?_; try with_reducible exact True.intro
    refine brT (by simpa using hc) ?_
    refine stp ?_; try with_reducible exact True.intro
    exact (fitK [] [0, 1])
  · refine ⟨up.set (f b).toNat (f a), joinF f b a, hF.join hb ha, fun g hg => hg.joinR hb ha, ?_⟩
    refine conI_of hmix hTab Try.func144 rfl rfl (by kernel_rfl) (by show 3 ≤ Try.f144.ntmps; decide) ?_
    refine stp ?_; try with_reducible exact True.intro
    refine useI [0, 1] (top hF a ha) ?_; try with_reducible exact True.intro
    refine useI [0, 1] (top hF b hb) ?_; try with_reducible exact True.intro
    refine brF (by simpa using hc) ?_
    refine stp ?_; try with_reducible exact True.intro
    exact (fitK [] [0, 1])
theorem count {n : Nat} {up : List Int} {f : Int → Int} (hF : Fo n up f) (hn : n ≤ 100000) : ConI Try.prog 145 [.pcell 0 0] (sJ up) (.i (rootsOf n f).length) (sJ up) := by
  refine conI_of hmix hTab Try.func145 rfl rfl (by kernel_rfl) (by show 1 ≤ Try.f145.ntmps; decide) ?_
  obtain rfl := hF.len
  refine stp ?_; try with_reducible exact True.intro
  refine ⟨Nat, fun k => k ≤ up.length, fun k => up.length - k, fun k => [(3, .i (rootsOf k f).length), (9, .own 1 0 up.length), (10, .i up.length), (11, .i k)], fun k => sJ up, ⟨0, (fitK [] [0, 1]), Nat.zero_le _⟩, fun k hk => ?_⟩
  dsimp only at hk ⊢
  have hrl := roots_len f k
  have hs := roots_succ f k
  refine stp ?_; try with_reducible exact True.intro
  refine Br.mk (fun h => ?_) (fun h => ?_) <;> simp [-Int.ofNat_toNat] at h
  · have hr := hF.root (x := k) ⟨by omega, by omega⟩
    refine stp ?_; try with_reducible exact True.intro
    refine Br.mk (fun h2 => ?_) (fun h2 => ?_) <;> simp [-Int.ofNat_toNat] at h2
    · have h3 := hr.1 h2.symm
      rw [if_pos h3] at hs
      refine stp ?_; try with_reducible exact True.intro
      exact ⟨k + 1, ⟨.frz [], [0, 1], ⟨by rw [hs]; rfl, rfl, rfl, rfl, trivial⟩, ⟨rfl, rfl, trivial⟩, by decide, rfl, rfl, rfl⟩, by first | ((try dsimp only); omega) | (simp; omega), by first | ((try dsimp only); omega) | (simp; omega)⟩
    · have h3 : ¬ f k = k := fun c => h2 (hr.2 c).symm
      rw [if_neg h3] at hs
      refine stp ?_; try with_reducible exact True.intro
      exact ⟨k + 1, ⟨.frz [], [0, 1], ⟨by rw [hs]; rfl, rfl, rfl, rfl, trivial⟩, ⟨rfl, rfl, trivial⟩, by decide, rfl, rfl, rfl⟩, by first | ((try dsimp only); omega) | (simp; omega), by first | ((try dsimp only); omega) | (simp; omega)⟩
  · refine stp ?_; try with_reducible exact True.intro
    obtain rfl : k = up.length := by omega
    exact (fitK [] [0, 1])
end Go.Proofs.YtldjlonofclelaaTv
end
section
open Go Go.Proofs.YtldjlonofclelaaVe Go.Proofs.YtldjlonofclelaaTv Go.Proofs
namespace Go.Proofs.YtldjlonofclelaaTv
set_option maxRecDepth 8000
set_option maxHeartbeats 2000000
def rowOk (n : Int) (e : List Int) : Bool := decide (e.length = 2) && (decide (0 ≤ rd e 0) && (decide (rd e 0 ≤ rd e 1) && decide (rd e 1 < n)))
def bump (c : List Int) (i : Int) : List Int := c.set i.toNat (rd c i + 1)
def bumpE (c e : List Int) : List Int := bump (bump c (rd e 0)) (rd e 1)
def cnt (n : Nat) (ll : List (List Int)) (k : Nat) : List Int := (ll.take k).foldl bumpE (List.replicate n 0)
theorem cnt_succ {n : Nat} {ll : List (List Int)} {k : Nat} (h : k < ll.length) : cnt n ll (k + 1) = bumpE (cnt n ll k) (rdR ll k) := by
  unfold cnt
  rw [List.take_add_one, List.foldl_append]
  simp [rdR, h]
@[simp] theorem cnt_length (n : Nat) (ll : List (List Int)) (k : Nat) : (cnt n ll k).length = n := by
  have : ∀ (l : List (List Int)) (c : List Int), (l.foldl bumpE c).length = c.length := by
    intro l
    induction l with
    | nil => intro c; rfl
    | cons e l ih => intro c; rw [List.foldl_cons, ih]; simp [bumpE, bump]
  unfold cnt
  rw [this]; simp
theorem rd_bump {c : List Int} {i j : Int} (hi : 0 ≤ i ∧ i < c.length) (hj : 0 ≤ j) : rd (bump c i) j = if j = i then rd c i + 1 else rd c j := rd_set hi.1 hj hi.2
theorem cnt_bound {n : Nat} {ll : List (List Int)} : ∀ (k : Nat), k ≤ ll.length → (∀ j : Nat, j < k → rowOk n (rdR ll j) = true) → ∀ i : Int, 0 ≤ i → 0 ≤ rd (cnt n ll k) i ∧ rd (cnt n ll k) i ≤ 2 * k := by
  intro k
  induction k with
  | zero =>
    intro _ _ i hi
    simp only [cnt, List.take_zero, List.foldl_nil, rd, List.getD_eq_getElem?_getD, List.getElem?_replicate]
    split <;> simp
  | succ k ih =>
    intro hk hr i hi
    have h1 := ih (by omega) (fun j hj => hr j (by omega))
    have h2 := hr k (by omega)
    simp only [rowOk, Bool.and_eq_true, decide_eq_true_eq] at h2
    rw [cnt_succ (by omega), bumpE, rd_bump (by simp [bump]; omega) hi]
    have b1 := h1 i hi
    have b2 := h1 (rd (rdR ll k) 1) (by omega)
    have b3 := h1 (rd (rdR ll k) 0) (by omega)
    rw [rd_bump (by simp; omega) hi, rd_bump (by simp; omega) (by omega)]
    split <;> split <;> (try split) <;> omega
def isPants (g : Int) (ll : List (List Int)) : Bool := decide (2 ≤ g ∧ g ≤ 4) && (decide ((ll.length : Int) = 3 * g - 3) && (ll.all (rowOk (2 * g - 2)) && ((cnt (2 * g - 2).toNat ll ll.length).all (fun k => decide (k = 3)) && decide ((rootsOf (2 * g - 2).toNat (jl (-1) ll ll.length)).length = 1))))
theorem ends_of {n : Nat} {ll : List (List Int)} (h : ∀ j : Nat, j < ll.length → rowOk n (rdR ll j) = true) : Ends n ll := fun k hk => by
  have := h k hk
  simp only [rowOk, Bool.and_eq_true, decide_eq_true_eq] at this
  exact ⟨this.1, ⟨by omega, by omega⟩, ⟨by omega, by omega⟩⟩
theorem all_rows {n : Int} {ll : List (List Int)} : ll.all (rowOk n) = true ↔ ∀ j : Nat, j < ll.length → rowOk n (rdR ll j) = true := by
  rw [List.all_eq_true]
  refine ⟨fun h j hj => h _ (by simp [rdR, hj]), fun h x hx => ?_⟩
  obtain ⟨j, hj⟩ := List.mem_iff_getElem?.1 hx
  have h1 := (List.getElem?_eq_some_iff.1 hj).1
  have := h j h1
  rwa [show rdR ll j = x by simp [rdR, hj]] at this
theorem IsPantsS (g : Int) (ll : List (List Int)) (hll : (ll.length : Int) ≤ 1048576) : ConS Try.prog 23 [.i g, .ill ll] (.b (isPants g ll)) := by
  refine conS_of hmix hTab Try.func23 rfl rfl (by kernel_rfl) (by show 2 ≤ Try.f23.ntmps; decide) rfl ?_
  by_cases hg : 2 ≤ g ∧ g ≤ 4
  · refine stp ?_; try with_reducible exact True.intro
    refine useT ((l1In g 2 4).toT) ?_; try with_reducible exact True.intro
    simp only [hg, and_self, decide_true]
    refine stp ?_; try with_reducible exact True.intro
    refine Br.mk (fun h1 => ?_) (fun h1 => ?_) <;> simp at h1
    · refine stp ?_; try with_reducible exact True.intro
      simp [isPants, h1]
    · obtain ⟨n, hn⟩ : ∃ n : Nat, 2 * g - 2 = n := ⟨(2 * g - 2).toNat, by omega⟩
      have hbad : ∀ k : Nat, k < ll.length → rowOk n (rdR ll k) = false → isPants g ll = false := fun k hk hr => by
        have : ll.all (rowOk (2 * g - 2)) = false := by
          refine Bool.eq_false_iff.2 fun c => ?_
          rw [hn, all_rows] at c
          rw [c k hk] at hr; cases hr
        simp [isPants, this]
      refine stp ?_; try with_reducible exact True.intro
      refine ⟨Nat, fun k => k ≤ ll.length ∧ ∀ j : Nat, j < k → rowOk n (rdR ll j) = true, fun k => ll.length - k, fun k => [(0, .i g), (1, .ill ll), (5, .own 0 0 n), (6, .i k)], fun k => [.arr (.int .i64) (cnt n ll k) true], ⟨0, ⟨.frz [], [0], ⟨rfl, rfl, by show V.own 0 0 (2 * g - 2).toNat = _; rw [hn]; rfl, rfl, trivial⟩, ⟨by show some (Obj.arr (.int .i64) (List.replicate (2 * g - 2).toNat 0) true) = _; rw [hn]; rfl, trivial⟩, by decide, rfl, rfl, rfl⟩, by simp⟩, fun k ⟨hk, hok⟩ => ?_⟩
      dsimp only at hk hok ⊢
      have hcl := cnt_length n ll k
      have hcb := cnt_bound (n := n) k hk hok
      refine stp ?_; try with_reducible exact True.intro
      refine Br.mk (fun h2 => ?_) (fun h2 => ?_) <;> simp [-Int.ofNat_toNat] at h2
      · have hbad := hbad k h2
        have ql : List.length (rdT (.list (.int .i64)) ll (k : Int)) = (rdR ll k).length := rfl; have q0 : @Eq Int (rdT (.int .i64) (rdT (.list (.int .i64)) ll (k : Int)) 0) (rd (rdR ll k) 0) := rfl; have q1 : @Eq Int (rdT (.int .i64) (rdT (.list (.int .i64)) ll (k : Int)) 1) (rd (rdR ll k) 1) := rfl; have qlo : List.length (rdT (.list (.int .i64)) ll (((k : Int).toNat : Nat) : Int)) = (rdR ll k).length := rfl; have q0o : @Eq Int (rdT (.int .i64) (rdT (.list (.int .i64)) ll (((k : Int).toNat : Nat) : Int)) 0) (rd (rdR ll k) 0) := rfl; have q1o : @Eq Int (rdT (.int .i64) (rdT (.list (.int .i64)) ll (((k : Int).toNat : Nat) : Int)) 1) (rd (rdR ll k) 1) := rfl
        refine stp ?_; try with_reducible exact True.intro
        refine Br.mk (fun h3 => ?_) (fun h3 => ?_) <;> simp only [decide_eq_true_eq, decide_eq_false_iff_not, ne_eq, Decidable.not_not] at h3
        · refine stp ?_; try with_reducible exact True.intro
          rw [hbad (by simp [rowOk]; intros; omega)]
        · refine stp ?_; try with_reducible exact True.intro
          refine useT ((l1In (rd (rdR ll k) 0) 0 (2 * g - 3)).toT) ?_; try with_reducible exact True.intro
          refine Br.mk (fun h4 => ?_) (fun h4 => ?_) <;> simp at h4
          · refine stp ?_; try with_reducible exact True.intro
            rw [hbad (by simp [rowOk]; intros; omega)]
          · have h4' : 0 ≤ rd (rdR ll k) 0 ∧ rd (rdR ll k) 0 ≤ 2 * g - 3 := by omega
            refine stp ?_; try with_reducible exact True.intro
            refine useT ((l1In (rd (rdR ll k) 1) (rd (rdR ll k) 0) (2 * g - 3)).toT) ?_; try with_reducible exact True.intro
            refine Br.mk (fun h5 => ?_) (fun h5 => ?_) <;> simp at h5
            · refine stp ?_; try with_reducible exact True.intro
              rw [hbad (by simp [rowOk]; intros; omega)]
            · have h5' : rd (rdR ll k) 0 ≤ rd (rdR ll k) 1 ∧ rd (rdR ll k) 1 ≤ 2 * g - 3 := by omega
              have hrk : rowOk n (rdR ll k) = true := by simp [rowOk]; omega
              have c0 : @Eq Int (rdT (.int .i64) (cnt n ll k) ((Int.toNat (rdT (.int .i64) (rdT (.list (.int .i64)) ll (k : Int)) 0) : Nat) : Int)) (rd (cnt n ll k) (rd (rdR ll k) 0)) := rfl
              have b0 := hcb (rd (rdR ll k) 0) (by omega)
              have c1 : @Eq Int (rdT (.int .i64) (bump (cnt n ll k) (rd (rdR ll k) 0)) ((Int.toNat (rdT (.int .i64) (rdT (.list (.int .i64)) ll (k : Int)) 1) : Nat) : Int)) (rd (bump (cnt n ll k) (rd (rdR ll k) 0)) (rd (rdR ll k) 1)) := rfl
              have b1 : 0 ≤ rd (bump (cnt n ll k) (rd (rdR ll k) 0)) (rd (rdR ll k) 1) ∧ rd (bump (cnt n ll k) (rd (rdR ll k) 0)) (rd (rdR ll k) 1) ≤ 2 * k + 1 := by
                have b2 := hcb (rd (rdR ll k) 1) (by omega)
                rw [rd_bump (by omega) (by omega)]
                split <;> omega
              have hb1 : (bump (cnt n ll k) (rd (rdR ll k) 0)).length = n := by simp [bump]
              have hs : List.set (cnt n ll k) (Int.toNat (rdT (.int .i64) (rdT (.list (.int .i64)) ll (k : Int)) 0)) (rdT (.int .i64) (cnt n ll k) ((Int.toNat (rdT (.int .i64) (rdT (.list (.int .i64)) ll (k : Int)) 0) : Nat) : Int) + 1) = bump (cnt n ll k) (rd (rdR ll k) 0) := rfl
              refine stp ?_; try with_reducible exact True.intro
              rw [hs]
              refine stp ?_; try with_reducible exact True.intro
              exact ⟨k + 1, ⟨.frz [], [0], ⟨rfl, rfl, rfl, rfl, trivial⟩, ⟨by rw [cnt_succ h2]; rfl, trivial⟩, by decide, rfl, rfl, rfl⟩, ⟨h2, fun j hj => by
                by_cases e : j = k
                · rw [e]; exact hrk
                · exact hok j (by omega)⟩, by first | ((try dsimp only); omega) | (simp; omega)⟩
      · obtain rfl : k = ll.length := by omega
        have hall : ll.all (rowOk (2 * g - 2)) = true := by rw [hn, all_rows]; exact hok
        have hP : isPants g ll = ((cnt n ll ll.length).all (fun k => decide (k = 3)) && decide ((rootsOf n (jl (-1) ll ll.length)).length = 1)) := by
          simp only [isPants, hg, h1, hall, decide_true, Bool.true_and, and_self]
          rw [show (2 * g - 2).toNat = n by omega]
        rw [hP]
        generalize hcc : cnt n ll ll.length = c at *
        refine stp ?_; try with_reducible exact True.intro
        refine ⟨Nat, fun i => i ≤ n ∧ (c.drop i).all (fun k => decide (k = 3)) = c.all (fun k => decide (k = 3)), fun i => n - i, fun i => [(0, .i g), (1, .ill ll), (5, .own 0 0 n), (7, .i i)], fun i => [.arr (.int .i64) c true], ⟨0, (fitK [] [0]), by simp⟩, fun i ⟨hi, hal⟩ => ?_⟩
        dsimp only at hi hal ⊢
        refine stp ?_; try with_reducible exact True.intro
        refine Br.mk (fun h6 => ?_) (fun h6 => ?_) <;> simp [-Int.ofNat_toNat] at h6
        · rw [List.drop_eq_getElem_cons (by omega : i < c.length), List.all_cons] at hal
          have hci : c[i]'(by omega) = rd c i := by simp [rd, show i < c.length by omega]
          rw [hci] at hal
          refine stp ?_; try with_reducible exact True.intro
          refine Br.mk (fun h7 => ?_) (fun h7 => ?_) <;> simp [-Int.ofNat_toNat] at h7
          · refine stp ?_; try with_reducible exact True.intro
            have : c.all (fun k => decide (k = 3)) = false := by rw [← hal]; simp [show ¬ rd c i = 3 from h7]
            simp [this]
          · refine stp ?_; try with_reducible exact True.intro
            exact ⟨i + 1, (fitK [] [0]), ⟨h6, by rw [← hal]; simp [show rd c i = 3 from h7]⟩, by first | ((try dsimp only); omega) | (simp; omega)⟩
        · obtain rfl : i = n := by omega
          have hj := l19Joined i ll (-1) (by omega) (by omega) (ends_of hok)
          rw [← hn] at hj
          rw [List.drop_of_length_le (by omega)] at hal
          rw [← hal, List.all_nil, Bool.true_and]
          refine stp ?_; try with_reducible exact True.intro
          refine useT (hj.toT) ?_; try with_reducible exact True.intro
  · have hP : isPants g ll = false := by simp [isPants, hg]
    rw [hP]
    refine stp ?_; try with_reducible exact True.intro
    refine useT ((l1In g 2 4).toT) ?_; try with_reducible exact True.intro
    simp only [hg, decide_false]
    refine stp ?_; try with_reducible exact True.intro
end Go.Proofs.YtldjlonofclelaaTv
end
section
open Go Go.Proofs.YtldjlonofclelaaVe Go.Proofs.YtldjlonofclelaaTv Go.Proofs
namespace Go.Proofs.YtldjlonofclelaaTv
set_option maxRecDepth 8000
set_option maxHeartbeats 2000000
/-- The joins of the reference are a forest's. -/
theorem fo_jl {n : Nat} {ll : List (List Int)} {skip : Int} (hE : Ends n ll) : ∀ k, k ≤ ll.length → ∃ up, Fo n up (jl skip ll k)
  | 0, _ => ⟨_, Fo.init n⟩
  | k + 1, h => by
    obtain ⟨up, hF⟩ := fo_jl (skip := skip) hE k (by omega)
    obtain ⟨e1, e2, e3⟩ := hE k (by omega)
    unfold jl
    split
    · exact ⟨up, hF⟩
    · exact ⟨_, hF.join e2 e3⟩
theorem IsPantsI (g : Int) (ll : List (List Int)) (hll : (ll.length : Int) ≤ 1048576) : ConS Try.prog 131 [.i g, .ill ll] (.b (isPants g ll)) := by
  refine conS_of hmix hTab Try.func131 rfl rfl (by kernel_rfl) (by show 2 ≤ Try.f131.ntmps; decide) rfl ?_
  by_cases hg : 2 ≤ g ∧ g ≤ 4
  · refine stp ?_; try with_reducible exact True.intro
    refine useT ((within g 2 4).toT) ?_; try with_reducible exact True.intro
    simp only [hg, and_self, decide_true]
    refine stp ?_; try with_reducible exact True.intro
    refine Br.mk (fun h1 => ?_) (fun h1 => ?_) <;> simp at h1
    · refine stp ?_; try with_reducible exact True.intro
      simp [isPants, h1]
    · obtain ⟨n, hn⟩ : ∃ n : Nat, 2 * g - 2 = n := ⟨(2 * g - 2).toNat, by omega⟩
      have hbad : ∀ k : Nat, k < ll.length → rowOk n (rdR ll k) = false → isPants g ll = false := fun k hk hr => by
        have : ll.all (rowOk (2 * g - 2)) = false := by
          refine Bool.eq_false_iff.2 fun c => ?_
          rw [hn, all_rows] at c
          rw [c k hk] at hr; cases hr
        simp [isPants, this]
      have hnj := newJoiner n (by omega)
      rw [← hn] at hnj
      refine stp ?_; try with_reducible exact True.intro
      refine .inr ⟨_, _, _, hnj, by repeat (first | exact trivial | refine ⟨by first | exact rfl | exact trivial | exact ⟨_, rfl, rfl⟩ | exact ⟨_, _, rfl, by first | (simp; done) | (simp; omega), by first | (simp; done) | (simp [List.take_of_length_le]; done) | (rw [List.drop_zero]; exact List.take_of_length_le (by first | omega | (simp; omega))) | (simp [List.take_of_length_le]; omega)⟩ | exact ⟨_, rfl, by first | (simp; done) | (simp; omega), by first | (simp; done) | (simp [List.take_of_length_le]; done) | (rw [List.drop_zero]; exact List.take_of_length_le (by first | omega | (simp; omega))) | (simp [List.take_of_length_le]; omega)⟩, ?_⟩), rfl, rfl, by first | exact ⟨rfl, trivial⟩ | decide | (simp [okOs, okO]; done) | (simp [okOs, okO, okWs, okW, most]; done) | (simp [okOs, okO, okWs, okW, most]; omega), ?_⟩; refine stp ?_; try with_reducible exact True.intro
      simp only [hn, Int.toNat_natCast]
      refine ⟨Nat × List Int, fun a => a.1 ≤ ll.length ∧ (∀ j : Nat, j < a.1 → rowOk n (rdR ll j) = true) ∧ ∃ f, Fo n a.2 f ∧ Ker n f (jl (-1) ll a.1), fun a => ll.length - a.1, fun a => [(5, .i n), (6, .own 0 0 n), (7, .pcell 1 0), (30, .ill ll), (31, .i ll.length), (32, .i a.1)], fun a => [.arr (.int .i64) (cnt n ll a.1) true, .vars [.own 2 0 a.2.length], .arr (.int .i64) a.2 true], ⟨(0, ints n), (fitK [] [0, 1, 2]), by simp, by simp, id, Fo.init n, Ker.refl n id⟩, fun ⟨k, up⟩ ⟨hk, hok, f, hF, hKer⟩ => ?_⟩
      dsimp only at hk hok hF hKer ⊢
      have hcl := cnt_length n ll k
      have hcb := cnt_bound (n := n) k hk hok
      refine stp ?_; try with_reducible exact True.intro
      refine Br.mk (fun h2 => ?_) (fun h2 => ?_) <;> simp [-Int.ofNat_toNat] at h2
      · have hbad := hbad k h2
        have ql : List.length (rdT (.list (.int .i64)) ll (k : Int)) = (rdR ll k).length := rfl; have q0 : @Eq Int (rdT (.int .i64) (rdT (.list (.int .i64)) ll (k : Int)) 0) (rd (rdR ll k) 0) := rfl; have q1 : @Eq Int (rdT (.int .i64) (rdT (.list (.int .i64)) ll (k : Int)) 1) (rd (rdR ll k) 1) := rfl; have qlo : List.length (rdT (.list (.int .i64)) ll (((k : Int).toNat : Nat) : Int)) = (rdR ll k).length := rfl; have q0o : @Eq Int (rdT (.int .i64) (rdT (.list (.int .i64)) ll (((k : Int).toNat : Nat) : Int)) 0) (rd (rdR ll k) 0) := rfl; have q1o : @Eq Int (rdT (.int .i64) (rdT (.list (.int .i64)) ll (((k : Int).toNat : Nat) : Int)) 1) (rd (rdR ll k) 1) := rfl
        refine stp ?_; try with_reducible exact True.intro
        refine Br.mk (fun h3 => ?_) (fun h3 => ?_) <;> simp only [decide_eq_true_eq, decide_eq_false_iff_not, ne_eq, Decidable.not_not] at h3
        · refine stp ?_; try with_reducible exact True.intro
          rw [hbad (by simp [rowOk]; intros; omega)]
        · refine stp ?_; try with_reducible exact True.intro
          refine Br.mk (fun h4 => ?_) (fun h4 => ?_) <;> simp only [decide_eq_true_eq, decide_eq_false_iff_not] at h4
          · refine stp ?_; try with_reducible exact True.intro
            rw [hbad (by simp [rowOk]; intros; omega)]
          · refine stp ?_; try with_reducible exact True.intro
            refine Br.mk (fun h5 => ?_) (fun h5 => ?_) <;> simp only [decide_eq_true_eq, decide_eq_false_iff_not] at h5
            · refine stp ?_; try with_reducible exact True.intro
              rw [hbad (by simp [rowOk]; intros; omega)]
            · refine stp ?_; try with_reducible exact True.intro
              refine Br.mk (fun h6 => ?_) (fun h6 => ?_) <;> simp only [decide_eq_true_eq, decide_eq_false_iff_not] at h6
              · refine stp ?_; try with_reducible exact True.intro
                rw [hbad (by simp [rowOk]; intros; omega)]
              · have hrk : rowOk n (rdR ll k) = true := by simp [rowOk]; omega
                have c0 : @Eq Int (rdT (.int .i64) (cnt n ll k) ((Int.toNat (rdT (.int .i64) (rdT (.list (.int .i64)) ll (k : Int)) 0) : Nat) : Int)) (rd (cnt n ll k) (rd (rdR ll k) 0)) := rfl
                have b0 := hcb (rd (rdR ll k) 0) (by omega)
                have c1 : @Eq Int (rdT (.int .i64) (bump (cnt n ll k) (rd (rdR ll k) 0)) ((Int.toNat (rdT (.int .i64) (rdT (.list (.int .i64)) ll (k : Int)) 1) : Nat) : Int)) (rd (bump (cnt n ll k) (rd (rdR ll k) 0)) (rd (rdR ll k) 1)) := rfl
                have b1 : 0 ≤ rd (bump (cnt n ll k) (rd (rdR ll k) 0)) (rd (rdR ll k) 1) ∧ rd (bump (cnt n ll k) (rd (rdR ll k) 0)) (rd (rdR ll k) 1) ≤ 2 * k + 1 := by
                  have b2 := hcb (rd (rdR ll k) 1) (by omega)
                  rw [rd_bump (by omega) (by omega)]
                  split <;> omega
                have hb1 : (bump (cnt n ll k) (rd (rdR ll k) 0)).length = n := by simp [bump]
                have hs : List.set (cnt n ll k) (Int.toNat (rdT (.int .i64) (rdT (.list (.int .i64)) ll (k : Int)) 0)) (rdT (.int .i64) (cnt n ll k) ((Int.toNat (rdT (.int .i64) (rdT (.list (.int .i64)) ll (k : Int)) 0) : Nat) : Int) + 1) = bump (cnt n ll k) (rd (rdR ll k) 0) := rfl
                obtain ⟨up', f', hF', hK', hjoin⟩ := join hF (rd (rdR ll k) 0) (rd (rdR ll k) 1) ⟨by omega, by omega⟩ ⟨by omega, by omega⟩
                refine stp ?_; try with_reducible exact True.intro
                rw [hs]
                refine stp ?_; try with_reducible exact True.intro
                refine useI [1, 2] (hjoin) ?_; try with_reducible exact True.intro
                exact ⟨(k + 1, up'), ⟨.frz [], [0, 1, 2], ⟨rfl, rfl, rfl, rfl, rfl, rfl, trivial⟩, ⟨by rw [cnt_succ h2]; rfl, rfl, rfl, trivial⟩, by decide, rfl, rfl, rfl⟩, ⟨h2, fun j hj => by
                  by_cases e : j = k
                  · rw [e]; exact hrk
                  · exact hok j (by omega), f', hF', by
                  have := hK' _ hKer
                  rwa [jl, if_neg (by omega)]⟩, by first | ((try dsimp only); omega) | (simp; omega)⟩
      · obtain rfl : k = ll.length := by omega
        have hall : ll.all (rowOk (2 * g - 2)) = true := by rw [hn, all_rows]; exact hok
        have hP : isPants g ll = ((cnt n ll ll.length).all (fun k => decide (k = 3)) && decide ((rootsOf n (jl (-1) ll ll.length)).length = 1)) := by
          simp only [isPants, hg, h1, hall, decide_true, Bool.true_and, and_self]
          rw [show (2 * g - 2).toNat = n by omega]
        rw [hP]
        generalize hcc : cnt n ll ll.length = c at *
        have hlen := hF.len
        refine stp ?_; try with_reducible exact True.intro
        refine ⟨Nat, fun i => i ≤ n ∧ (c.drop i).all (fun k => decide (k = 3)) = c.all (fun k => decide (k = 3)), fun i => n - i, fun i => [(7, .pcell 1 0), (86, .own 0 0 n), (87, .i n), (88, .i i)], fun i => [.arr (.int .i64) c true, .vars [.own 2 0 up.length], .arr (.int .i64) up true], ⟨0, (fitK [] [0, 1, 2]), by simp⟩, fun i ⟨hi, hal⟩ => ?_⟩
        dsimp only at hi hal ⊢
        refine stp ?_; try with_reducible exact True.intro
        refine Br.mk (fun h6 => ?_) (fun h6 => ?_) <;> simp [-Int.ofNat_toNat] at h6
        · rw [List.drop_eq_getElem_cons (by omega : i < c.length), List.all_cons] at hal
          have hci : c[i]'(by omega) = rd c i := by simp [rd, show i < c.length by omega]
          rw [hci] at hal
          refine stp ?_; try with_reducible exact True.intro
          refine Br.mk (fun h7 => ?_) (fun h7 => ?_) <;> simp [-Int.ofNat_toNat] at h7
          · refine stp ?_; try with_reducible exact True.intro
            have : c.all (fun k => decide (k = 3)) = false := by rw [← hal]; simp [show ¬ rd c i = 3 from h7]
            simp [this]
          · refine stp ?_; try with_reducible exact True.intro
            exact ⟨i + 1, (fitK [] [0, 1, 2]), ⟨h6, by rw [← hal]; simp [show rd c i = 3 from h7]⟩, by first | ((try dsimp only); omega) | (simp; omega)⟩
        · obtain rfl : i = n := by omega
          rw [List.drop_of_length_le (by omega)] at hal
          rw [← hal, List.all_nil, Bool.true_and]
          have hre := roots_eq hF (fo_jl (ends_of hok) ll.length (by omega)).choose_spec hKer
          refine stp ?_; try with_reducible exact True.intro
          refine useI [1, 2] (count hF (by omega)) ?_; try with_reducible exact True.intro
          have e5 : (((rootsOf i f).length : Nat) : Int) = 1 ↔ (rootsOf i (jl (-1) ll ll.length)).length = 1 := by omega
          simp only [e5]
  · have hP : isPants g ll = false := by simp [isPants, hg]
    rw [hP]
    refine stp ?_; try with_reducible exact True.intro
    refine useT ((within g 2 4).toT) ?_; try with_reducible exact True.intro
    simp only [hg, decide_false]
    refine stp ?_; try with_reducible exact True.intro
end Go.Proofs.YtldjlonofclelaaTv
end
section
open Go Go.Proofs.YtldjlonofclelaaVe Go.Proofs.YtldjlonofclelaaTv Go.Proofs
namespace Go.Proofs.YtldjlonofclelaaTv
set_option maxRecDepth 8000
set_option maxHeartbeats 2000000
end Go.Proofs.YtldjlonofclelaaTv
end
section
open Go Go.Proofs.YtldjlonofclelaaVe Go.Proofs.YtldjlonofclelaaTv Go.Proofs
namespace Go.Proofs.YtldjlonofclelaaTv
set_option maxRecDepth 8000
set_option maxHeartbeats 2000000
theorem pants_facts {g : Int} {ll : List (List Int)} (h : isPants g ll = true) : ∃ n : Nat, 2 * g - 2 = n ∧ 2 ≤ n ∧ n ≤ 6 ∧ (2 ≤ g ∧ g ≤ 4) ∧ (ll.length : Int) = 3 * g - 3 ∧ ll.length ≤ 9 ∧ ∀ j : Nat, j < ll.length → rowOk n (rdR ll j) = true := by
  simp only [isPants, Bool.and_eq_true, decide_eq_true_eq] at h
  obtain ⟨h1, h2, h3, _⟩ := h
  refine ⟨(2 * g - 2).toNat, by omega, by omega, by omega, h1, h2, by omega, all_rows.1 ?_⟩
  rw [show (((2 * g - 2).toNat : Nat) : Int) = 2 * g - 2 by omega]; exact h3
theorem rowOk_facts {n : Nat} {e : List Int} (h : rowOk n e = true) : e.length = 2 ∧ 0 ≤ rd e 0 ∧ rd e 0 ≤ rd e 1 ∧ rd e 1 < (n : Int) := by
  simpa [rowOk] using h
theorem roots_pos {n : Nat} {up : List Int} {f : Int → Int} (h : Fo n up f) (hn : 1 ≤ n) : 1 ≤ (rootsOf n f).length := by
  have h0 : InR n 0 := ⟨by omega, by omega⟩
  have : f 0 ∈ rootsOf n f := by
    simp only [rootsOf, List.mem_filter, beq_iff_eq]
    exact ⟨mem_ints.2 (h.rng 0 h0), h.idem h0⟩
  exact List.length_pos_of_mem this
def brg (n : Nat) (ll : List (List Int)) (e : Nat) : List Int := ((List.range e).filter fun e : Nat => !decide ((rootsOf n (jl (e : Int) ll ll.length)).length = 1)).map fun e : Nat => (e : Int)
theorem brg_succ (n : Nat) (ll : List (List Int)) (e : Nat) : brg n ll (e + 1) = if (rootsOf n (jl (e : Int) ll ll.length)).length = 1 then brg n ll e else brg n ll e ++ [(e : Int)] := by
  unfold brg
  rw [List.range_succ, List.filter_append, List.map_append]
  split
  · rename_i h; simp [h]
  · rename_i h; simp [h]
theorem brg_len (n : Nat) (ll : List (List Int)) (e : Nat) : (brg n ll e).length ≤ e := by
  unfold brg
  have := List.length_filter_le (fun e : Nat => !decide ((rootsOf n (jl (e : Int) ll ll.length)).length = 1)) (List.range e)
  simp at this ⊢
  exact this
def bridges (g : Int) (ll : List (List Int)) : List Int := if isPants g ll = true then brg (2 * g - 2).toNat ll ll.length else []
end Go.Proofs.YtldjlonofclelaaTv
end
section
open Go Go.Proofs.YtldjlonofclelaaVe Go.Proofs.YtldjlonofclelaaTv Go.Proofs
namespace Go.Proofs.YtldjlonofclelaaTv
set_option maxRecDepth 8000
set_option maxHeartbeats 2000000
end Go.Proofs.YtldjlonofclelaaTv
end
section
open Go Go.Proofs.YtldjlonofclelaaVe Go.Proofs.YtldjlonofclelaaTv Go.Proofs
namespace Go.Proofs.YtldjlonofclelaaTv
set_option maxRecDepth 8000
set_option maxHeartbeats 2000000
theorem szSS_total {ll : List (List Int)} {left : Int} (h : 0 ≤ szSS ll left) : total ll ≤ left := by
  unfold szSS at h
  split at h
  · omega
  · rename_i h1
    have : ∀ (l : List (List Int)) (lf : Int), 0 ≤ lf → 0 ≤ szR l lf → total l ≤ lf := by
      intro l
      induction l with
      | nil => intro lf h0 _; simpa [total] using h0
      | cons r l ih =>
        intro lf h0 h2
        unfold szR at h2
        split at h2
        · omega
        · rename_i h3
          have h4 : szS r lf = lf - r.length := by
            unfold szS at h3 ⊢
            split
            · rename_i h5; simp [h5] at h3
            · rfl
          have := ih _ (by omega) h2
          simp only [total]
          omega
    have := this ll _ (by omega) h
    omega
end Go.Proofs.YtldjlonofclelaaTv
end
section
open Go Go.Proofs.YtldjlonofclelaaVe Go.Proofs.YtldjlonofclelaaTv Go.Proofs
namespace Go.Proofs.YtldjlonofclelaaTv
set_option maxRecDepth 8000
set_option maxHeartbeats 2000000
/-- The ends of edges at a vertex, but those of one edge: the edges e, e + 1, .. of the list. -/
def endE (v but : Int) (e : Nat) (r : List Int) : List (Nat × Nat) := if (e : Int) = but then [] else (if rd r 0 = v then [(e, 0)] else []) ++ (if rd r 1 = v then [(e, 1)] else [])
def endsF (v but : Int) : Nat → List (List Int) → List (Nat × Nat)
  | _, [] => []
  | e, r :: rs => endE v but e r ++ endsF v but (e + 1) rs
def ends (ll : List (List Int)) (v but : Int) (k : Nat) : List (Nat × Nat) := endsF v but 0 (ll.take k)
theorem endsF_append (v but : Int) : ∀ (e : Nat) (l m : List (List Int)), endsF v but e (l ++ m) = endsF v but e l ++ endsF v but (e + l.length) m
  | e, [], m => by simp [endsF]
  | e, r :: l, m => by simp [endsF, endsF_append v but (e + 1) l m, Nat.add_assoc, Nat.add_comm 1]
theorem ends_succ {ll : List (List Int)} {v but : Int} {k : Nat} (h : k < ll.length) : ends ll v but (k + 1) = ends ll v but k ++ endE v but k (rdR ll k) := by
  unfold ends
  rw [take_succR h, endsF_append]
  simp [endsF, show min k ll.length = k by omega]
theorem endE_len (v but : Int) (e : Nat) (r : List Int) : (endE v but e r).length ≤ 2 := by
  unfold endE
  split
  · simp
  · split <;> split <;> simp
theorem ends_len {ll : List (List Int)} {v but : Int} : ∀ (k : Nat), k ≤ ll.length → (ends ll v but k).length ≤ 2 * k
  | 0, _ => by simp [ends, endsF]
  | k + 1, h => by
    rw [ends_succ (by omega), List.length_append]
    have := ends_len (ll := ll) (v := v) (but := but) k (by omega)
    have := endE_len v but k (rdR ll k)
    omega
def encE (p : Nat × Nat) : Int := 2 * p.1 + p.2
def agE (p : Nat × Nat) : Int × Int × Unit := (p.1, p.2, ())
theorem endsF_in {v but : Int} : ∀ (e : Nat) (l : List (List Int)), ∀ p ∈ endsF v but e l, e ≤ p.1 ∧ p.1 < e + l.length ∧ p.2 < 2
  | e, [], p, h => by simp [endsF] at h
  | e, r :: l, p, h => by
    simp only [endsF, List.mem_append] at h
    rcases h with h | h
    · unfold endE at h
      split at h
      · simp at h
      · rw [List.mem_append] at h
        rcases h with h | h
        · split at h
          · simp at h; subst h; simp
          · simp at h
        · split at h
          · simp at h; subst h; simp
          · simp at h
    · have := endsF_in (e + 1) l p h
      simp only [List.length_cons]
      omega
theorem rd_bumpE {c e : List Int} {n : Nat} (hl : c.length = n) (h : 0 ≤ rd e 0 ∧ rd e 0 ≤ rd e 1 ∧ rd e 1 < n) {v : Int} (hv : 0 ≤ v) : rd (bumpE c e) v = rd c v + (if v = rd e 0 then 1 else 0) + (if v = rd e 1 then 1 else 0) := by
  have hb : (bump c (rd e 0)).length = n := by simp [bump, hl]
  rw [bumpE, rd_bump (by omega) hv]
  by_cases c1 : v = rd e 1
  · rw [if_pos c1, if_pos c1, rd_bump (by omega) (by omega)]
    by_cases c0 : rd e 1 = rd e 0
    · rw [if_pos c0, if_pos (c1.trans c0), ← c0, ← c1]
    · rw [if_neg c0, if_neg (fun c => c0 (c1.symm.trans c)), ← c1]; omega
  · rw [if_neg c1, if_neg c1, rd_bump (by omega) hv]
    by_cases c0 : v = rd e 0
    · rw [if_pos c0, if_pos c0, ← c0]; omega
    · rw [if_neg c0, if_neg c0]; omega
theorem endE_other {v but : Int} {e : Nat} {r : List Int} (h : ¬ (e : Int) = but) : (endE v but e r).length = (if v = rd r 0 then 1 else 0) + (if v = rd r 1 then 1 else 0) := by
  unfold endE
  rw [if_neg h, List.length_append]
  congr 1
  · by_cases c : v = rd r 0
    · rw [if_pos c, if_pos c.symm]; rfl
    · rw [if_neg c, if_neg (fun d => c d.symm)]; rfl
  · by_cases c : v = rd r 1
    · rw [if_pos c, if_pos c.symm]; rfl
    · rw [if_neg c, if_neg (fun d => c d.symm)]; rfl
/-- Each vertex has three ends. -/
theorem cnt_ends {n : Nat} {ll : List (List Int)} (v : Int) (hv : 0 ≤ v ∧ v < n) (hok : ∀ j : Nat, j < ll.length → rowOk n (rdR ll j) = true) : ∀ k, k ≤ ll.length → rd (cnt n ll k) v = (ends ll v (-1) k).length
  | 0, _ => by
    simp only [cnt, List.take_zero, List.foldl_nil, rd, List.getD_eq_getElem?_getD, List.getElem?_replicate, ends, endsF]
    split <;> simp
  | k + 1, h => by
    have ih := cnt_ends v hv hok k (by omega)
    obtain ⟨r1, r2, r3, r4⟩ := rowOk_facts (hok k (by omega))
    have hl := cnt_length n ll k
    rw [cnt_succ (by omega), rd_bumpE hl ⟨r2, r3, r4⟩ hv.1, ends_succ (by omega), List.length_append, endE_other (by omega), ih]
    split <;> split <;> simp <;> omega
/-- Without the ends of an edge. -/
theorem ends_but {ll : List (List Int)} {v : Int} {e : Nat} : ∀ k, k ≤ ll.length → (ends ll v (-1) k).length = (ends ll v e k).length + if e < k then (endE v (-1) e (rdR ll e)).length else 0
  | 0, _ => by simp [ends, endsF]
  | k + 1, h => by
    have ih := ends_but (ll := ll) (v := v) (e := e) k (by omega)
    rw [ends_succ (by omega), ends_succ (by omega), List.length_append, List.length_append, ih]
    by_cases c : e = k
    · subst c
      have : endE v e e (rdR ll e) = [] := by simp [endE]
      rw [this, if_neg (by omega), if_pos (by omega)]; simp
    · have : (endE v e k (rdR ll k)).length = (endE v (-1) k (rdR ll k)).length := by rw [endE_other (by omega), endE_other (by omega)]
      rw [this]
      by_cases c2 : e < k
      · rw [if_pos c2, if_pos (by omega)]; omega
      · rw [if_neg c2, if_neg (by omega)]; omega
theorem pants_count {g : Int} {ll : List (List Int)} (h : isPants g ll = true) {n : Nat} (hn : 2 * g - 2 = n) (v : Int) (hv : 0 ≤ v ∧ v < n) : rd (cnt n ll ll.length) v = 3 := by
  simp only [isPants, Bool.and_eq_true, decide_eq_true_eq, List.all_eq_true] at h
  have h4 := h.2.2.2.1
  rw [show (2 * g - 2).toNat = n by omega] at h4
  have hl := cnt_length n ll ll.length
  have hm : rd (cnt n ll ll.length) v ∈ cnt n ll ll.length := by
    have : v.toNat < (cnt n ll ll.length).length := by omega
    simp only [rd, List.getD_eq_getElem?_getD, List.getElem?_eq_getElem this, Option.getD_some]
    exact List.getElem_mem _
  exact h4 _ hm
/-- Beside an edge that is no loop, each of its vertices has two more ends. -/
theorem ends_two {g : Int} {ll : List (List Int)} (h : isPants g ll = true) {e : Nat} (he : e < ll.length) (hne : rd (rdR ll e) 0 ≠ rd (rdR ll e) 1) {v : Int} (hv : v = rd (rdR ll e) 0 ∨ v = rd (rdR ll e) 1) : (ends ll v e ll.length).length = 2 := by
  obtain ⟨n, hn, n2, n6, hg, hlen, hl9, hok⟩ := pants_facts h
  obtain ⟨r1, r2, r3, r4⟩ := rowOk_facts (hok e he)
  have hv2 : 0 ≤ v ∧ v < n := by rcases hv with rfl | rfl <;> omega
  have h1 := pants_count h hn v hv2
  rw [cnt_ends v hv2 hok _ (Nat.le_refl _)] at h1
  have h2 := ends_but (ll := ll) (v := v) (e := e) ll.length (Nat.le_refl _)
  rw [if_pos he] at h2
  have h3 : (endE v (-1) e (rdR ll e)).length = 1 := by
    rw [endE_other (by omega)]
    rcases hv with rfl | rfl
    · rw [if_pos rfl, if_neg hne]
    · rw [if_pos rfl, if_neg (fun c => hne c.symm)]
  omega
end Go.Proofs.YtldjlonofclelaaTv
end
section
open Go Go.Proofs.YtldjlonofclelaaVe Go.Proofs.YtldjlonofclelaaTv Go.Proofs
namespace Go.Proofs.YtldjlonofclelaaTv
set_option maxRecDepth 8000
set_option maxHeartbeats 2000000
theorem l1Min (a b : Int) : ConS Try.prog 153 [.i a, .i b] (.i (min a b)) := by
  refine conS_of hmix hTab Try.func153 rfl rfl (by kernel_rfl) (by show 2 ≤ Try.f153.ntmps; decide) rfl ?_
  refine stp ?_; try with_reducible exact True.intro
  refine Br.mk (fun h => ?_) (fun h => ?_) <;> simp [-Int.ofNat_toNat] at h
  · refine stp ?_; try with_reducible exact True.intro
    rw [Int.min_eq_left (by omega)]
  · refine stp ?_; try with_reducible exact True.intro
    rw [Int.min_eq_right (by omega)]
theorem l1Max (a b : Int) : ConS Try.prog 120 [.i a, .i b] (.i (max a b)) := by
  refine conS_of hmix hTab Try.func120 rfl rfl (by kernel_rfl) (by show 2 ≤ Try.f120.ntmps; decide) rfl ?_
  refine stp ?_; try with_reducible exact True.intro
  refine Br.mk (fun h => ?_) (fun h => ?_) <;> simp [-Int.ofNat_toNat] at h
  · refine stp ?_; try with_reducible exact True.intro
    rw [Int.max_eq_left (by omega)]
  · refine stp ?_; try with_reducible exact True.intro
    rw [Int.max_eq_right (by omega)]
theorem minI_eq (a b : Int) : minI a b = min a b := by unfold minI; split <;> omega
theorem maxI_eq (a b : Int) : maxI a b = max a b := by unfold maxI; split <;> omega
theorem pair (a b : Int) : ConT Try.prog 147 [.i a, .i b] (.own 0 0 2) [.arr (.int .i64) [min a b, max a b] true] := by
  refine conT_of hmix hTab Try.func147 rfl rfl (by kernel_rfl) (by show 2 ≤ Try.f147.ntmps; decide) ?_
  rw [← minI_eq, ← maxI_eq]
  refine stp ?_; try with_reducible exact True.intro
  exact (fitK [] [0])
theorem copyOf (l : List Int) (hl : (l.length : Int) ≤ 274877906944) : ConT Try.prog 88 [.il l] (.own 0 0 l.length) [.arr (.int .i64) l true] := by
  refine conT_of hmix hTab Try.func88 rfl rfl (by kernel_rfl) (by show 1 ≤ Try.f88.ntmps; decide) ?_
  refine stp ?_; try with_reducible exact True.intro
  exact (fitK [] [1])
theorem copyRows (ll : List (List Int)) (hl : (ll.length : Int) ≤ 1048576) (hr : ∀ r ∈ ll, (r.length : Int) ≤ 274877906944) : ConT Try.prog 110 [.ill ll] (.own 0 0 ll.length) [.arr (.list (.int .i64)) ll true] := by
  refine conT_of hmix hTab Try.func110 rfl rfl (by kernel_rfl) (by show 1 ≤ Try.f110.ntmps; decide) ?_
  refine stp ?_; try with_reducible exact True.intro
  refine Or.inl ?_; refine stp ?_; try with_reducible exact True.intro
  refine ⟨Nat, fun i => i ≤ ll.length, fun i => ll.length - i, fun i => [(3, .own 0 0 i), (7, .ill ll), (8, .i ll.length), (9, .i i)], fun i => [.arr (.list (.int .i64)) (ll.take i) true], ⟨0, (fitK [] [0]), Nat.zero_le _⟩, fun i hi => ?_⟩
  dsimp only at hi ⊢
  have htl : (ll.take i).length = i := by simp; omega
  refine stp ?_; try with_reducible exact True.intro
  refine Br.mk (fun h => ?_) (fun h => ?_) <;> simp [-Int.ofNat_toNat] at h
  · have hmem : rdR ll i ∈ ll := by simp [rdR, h]
    refine stp ?_; try with_reducible exact True.intro
    refine useT (copyOf (rdR ll i) (hr _ hmem)) ?_; try with_reducible exact True.intro
    refine Or.inl ⟨_, rfl, rfl, by first | rfl | (simp; done) | (simp; omega), ?_⟩; refine stp ?_; try with_reducible exact True.intro
    refine Or.inl ⟨_, _, rfl, rfl, by decide, rfl, by first | rfl | omega | (simp; done) | (simp; omega), rfl, by first | rfl | omega | (simp; done) | (simp; omega), by first | omega | (simp; omega), ?_⟩; refine stp ?_; try with_reducible exact True.intro
    refine ⟨i + 1, ⟨.frz [], [3], by repeat (first | exact trivial | refine ⟨by first | rfl | (simp [Obj.ren, frzI, -Int.ofNat_toNat]; done) | (simp [Obj.ren, frzI, V.ren, V.rens, V.cells, EnvV.ev, EnvV.upd, mkE, backL, backN, -Int.ofNat_toNat]; done) | (simp [Obj.ren, frzI, -Int.ofNat_toNat]; omega), ?_⟩), ⟨?_, trivial⟩, by decide, rfl, rfl, rfl⟩, h, by first | ((try dsimp only); omega) | (simp; omega)⟩
    rw [take_succR h]
    first | rfl | (simp [Obj.ren, frzI]; done) | (simp [Obj.ren, frzI, rdR]; done)
  · obtain rfl : i = ll.length := by omega
    refine stp ?_; try with_reducible exact True.intro
    exact (fitK [] [0])
theorem l5Copy (ll : List (List Int)) (hl : (ll.length : Int) ≤ 1048576) (hr : ∀ r ∈ ll, (r.length : Int) ≤ 274877906944) : ConT Try.prog 155 [.ill ll] (.own 0 0 ll.length) [.arr (.list (.int .i64)) ll true] := by
  refine conT_of hmix hTab Try.func155 rfl rfl (by kernel_rfl) (by show 1 ≤ Try.f155.ntmps; decide) ?_
  refine stp ?_; try with_reducible exact True.intro
  refine Or.inl ?_; refine stp ?_; try with_reducible exact True.intro
  refine ⟨Nat, fun i => i ≤ ll.length, fun i => ll.length - i, fun i => [(0, .ill ll), (3, .own 0 0 i), (4, .i i)], fun i => [.arr (.list (.int .i64)) (ll.take i) true], ⟨0, (fitK [] [0]), Nat.zero_le _⟩, fun i hi => ?_⟩
  dsimp only at hi ⊢
  have htl : (ll.take i).length = i := by simp; omega
  refine stp ?_; try with_reducible exact True.intro
  refine Br.mk (fun h => ?_) (fun h => ?_) <;> simp [-Int.ofNat_toNat] at h
  · have hmem : rdR ll i ∈ ll := by simp [rdR, h]
    have hrl : (List.length (rdT (.list (.int .i64)) ll (i : Int)) : Int) ≤ 274877906944 := hr _ hmem
    refine stp ?_; try with_reducible exact True.intro
    refine And.intro (by simpa using hrl) ?_
    refine stp ?_; try with_reducible exact True.intro
    refine Or.inl ⟨_, rfl, rfl, by first | rfl | (simp; done) | (simp; omega), ?_⟩; refine stp ?_; try with_reducible exact True.intro
    refine Or.inl ⟨_, _, rfl, rfl, by decide, rfl, by first | rfl | omega | (simp; done) | (simp; omega), rfl, by first | rfl | omega | (simp; done) | (simp; omega), by first | omega | (simp; omega), ?_⟩; refine stp ?_; try with_reducible exact True.intro
    refine ⟨i + 1, ⟨.frz [], [4], by repeat (first | exact trivial | refine ⟨by first | rfl | (simp [Obj.ren, frzI, -Int.ofNat_toNat]; done) | (simp [Obj.ren, frzI, V.ren, V.rens, V.cells, EnvV.ev, EnvV.upd, mkE, backL, backN, -Int.ofNat_toNat]; done) | (simp [Obj.ren, frzI, -Int.ofNat_toNat]; omega), ?_⟩), ⟨?_, trivial⟩, by decide, rfl, rfl, rfl⟩, h, by first | ((try dsimp only); omega) | (simp; omega)⟩
    rw [take_succR h]
    first | rfl | (simp [Obj.ren, frzI]; done) | (simp [Obj.ren, frzI, rdR]; done)
  · obtain rfl : i = ll.length := by omega
    refine stp ?_; try with_reducible exact True.intro
    exact (fitK [] [0])
/-- The ends of an edge that were seen. -/
def endJ (v but : Int) (e : Nat) (r : List Int) (j : Nat) : List (Nat × Nat) := if (e : Int) = but then [] else (if 1 ≤ j ∧ rd r 0 = v then [(e, 0)] else []) ++ (if 2 ≤ j ∧ rd r 1 = v then [(e, 1)] else [])
theorem endJ_zero (v but : Int) (e : Nat) (r : List Int) : endJ v but e r 0 = [] := by simp [endJ]
theorem endJ_two (v but : Int) (e : Nat) (r : List Int) : endJ v but e r 2 = endE v but e r := by simp [endJ, endE]
theorem endJ_succ {v but : Int} {e : Nat} {r : List Int} {j : Nat} (h : j < 2) : endJ v but e r (j + 1) = if (e : Int) ≠ but ∧ rd r j = v then endJ v but e r j ++ [(e, j)] else endJ v but e r j := by
  unfold endJ
  by_cases c : (e : Int) = but
  · simp [c]
  · obtain rfl | rfl : j = 0 ∨ j = 1 := by omega
    · by_cases c0 : rd r 0 = v <;> simp [c, c0]
    · by_cases c0 : rd r 1 = v <;> simp [c, c0]
theorem endJ_len (v but : Int) (e : Nat) (r : List Int) (j : Nat) : (endJ v but e r j).length ≤ 2 := by
  unfold endJ
  split
  · simp
  · split <;> split <;> simp
theorem l19Ends (ll : List (List Int)) (v but : Int) (hl : ll.length ≤ 9) (hr : ∀ j : Nat, j < ll.length → (rdR ll j).length = 2) : ConT Try.prog 154 [.ill ll, .i v, .i but] (.own 0 0 (ends ll v but ll.length).length) [.arr (.int .i64) ((ends ll v but ll.length).map encE) true] := by
  refine conT_of hmix hTab Try.func154 rfl rfl (by kernel_rfl) (by show 3 ≤ Try.f154.ntmps; decide) ?_
  refine stp ?_; try with_reducible exact True.intro
  refine ⟨Nat, fun k => k ≤ ll.length, fun k => ll.length - k, fun k => [(0, .ill ll), (1, .i v), (2, .i but), (7, .own 0 0 (ends ll v but k).length), (8, .i k)], fun k => [.arr (.int .i64) ((ends ll v but k).map encE) true], ⟨0, (fitK [] [0]), Nat.zero_le _⟩, fun k hk => ?_⟩
  dsimp only at hk ⊢
  have hel := ends_len (v := v) (but := but) k hk
  refine stp ?_; try with_reducible exact True.intro
  refine Br.mk (fun h => ?_) (fun h => ?_) <;> simp [-Int.ofNat_toNat] at h
  · have ql : List.length (rdT (.list (.int .i64)) ll (k : Int)) = (rdR ll k).length := rfl; have q0 : @Eq Int (rdT (.int .i64) (rdT (.list (.int .i64)) ll (k : Int)) 0) (rd (rdR ll k) 0) := rfl; have q1 : @Eq Int (rdT (.int .i64) (rdT (.list (.int .i64)) ll (k : Int)) 1) (rd (rdR ll k) 1) := rfl; have qlo : List.length (rdT (.list (.int .i64)) ll (((k : Int).toNat : Nat) : Int)) = (rdR ll k).length := rfl; have q0o : @Eq Int (rdT (.int .i64) (rdT (.list (.int .i64)) ll (((k : Int).toNat : Nat) : Int)) 0) (rd (rdR ll k) 0) := rfl; have q1o : @Eq Int (rdT (.int .i64) (rdT (.list (.int .i64)) ll (((k : Int).toNat : Nat) : Int)) 1) (rd (rdR ll k) 1) := rfl
    have hr2 := hr k h
    have hs := ends_succ (v := v) (but := but) h
    refine stp ?_; try with_reducible exact True.intro
    refine ⟨Nat, fun j => j ≤ 2, fun j => 2 - j, fun j => [(0, .ill ll), (1, .i v), (2, .i but), (7, .own 0 0 (ends ll v but k ++ endJ v but k (rdR ll k) j).length), (8, .i k), (9, .i j)], fun j => [.arr (.int .i64) ((ends ll v but k ++ endJ v but k (rdR ll k) j).map encE) true], ⟨0, ?_, Nat.zero_le _⟩, fun j hj => ?_⟩
    · dsimp only
      rw [endJ_zero, List.append_nil]
      exact (fitK [] [0])
    dsimp only at hj ⊢
    have hjl := endJ_len v but k (rdR ll k) j
    have hll : (ends ll v but k ++ endJ v but k (rdR ll k) j).length ≤ 20 := by simp; omega
    have hq : @Eq Int (rdT (.int .i64) (rdT (.list (.int .i64)) ll (k : Int)) (j : Int)) (rd (rdR ll k) j) := rfl
    refine stp ?_; try with_reducible exact True.intro
    refine Br.mk (fun h2 => ?_) (fun h2 => ?_) <;> simp [-Int.ofNat_toNat] at h2
    · have hsj := endJ_succ (v := v) (but := but) (e := k) (r := rdR ll k) (by omega : j < 2)
      refine stp ?_; try with_reducible exact True.intro
      refine Br.mk (fun h3 => ?_) (fun h3 => ?_) <;> simp [-Int.ofNat_toNat] at h3
      · refine stp ?_; try with_reducible exact True.intro
        refine Br.mk (fun h4 => ?_) (fun h4 => ?_) <;> simp [-Int.ofNat_toNat] at h4
        · rw [if_pos ⟨h3, h4⟩] at hsj
          refine stp ?_; try with_reducible exact True.intro
          refine ⟨j + 1, ⟨.frz [], [2], ⟨rfl, rfl, rfl, ?_, rfl, rfl, trivial⟩, ⟨?_, trivial⟩, by decide, rfl, rfl, rfl⟩, by first | ((try dsimp only); omega) | (simp; omega), by first | ((try dsimp only); omega) | (simp; omega)⟩
          · simp [hsj, V.ren, EnvV.ev, EnvV.upd]; omega
          · simp [hsj, Obj.ren, frzI, List.take_of_length_le, encE]
        · rw [if_neg (fun c => h4 c.2)] at hsj
          refine stp ?_; try with_reducible exact True.intro
          refine ⟨j + 1, ⟨.frz [], [0], ⟨rfl, rfl, rfl, by rw [hsj]; rfl, rfl, rfl, trivial⟩, ⟨by rw [hsj]; rfl, trivial⟩, by decide, rfl, rfl, rfl⟩, by first | ((try dsimp only); omega) | (simp; omega), by first | ((try dsimp only); omega) | (simp; omega)⟩
      · rw [if_neg (fun c => c.1 h3)] at hsj
        refine stp ?_; try with_reducible exact True.intro
        refine ⟨j + 1, ⟨.frz [], [0], ⟨rfl, rfl, rfl, by rw [hsj]; rfl, rfl, rfl, trivial⟩, ⟨by rw [hsj]; rfl, trivial⟩, by decide, rfl, rfl, rfl⟩, by first | ((try dsimp only); omega) | (simp; omega), by first | ((try dsimp only); omega) | (simp; omega)⟩
    · obtain rfl : j = 2 := by omega
      refine stp ?_; try with_reducible exact True.intro
      refine ⟨k + 1, ⟨.frz [], [0], ⟨rfl, rfl, rfl, by rw [hs, ← endJ_two]; rfl, rfl, trivial⟩, ⟨by rw [hs, ← endJ_two]; rfl, trivial⟩, by decide, rfl, rfl, rfl⟩, h, by first | ((try dsimp only); omega) | (simp; omega)⟩
  · obtain rfl : k = ll.length := by omega
    refine stp ?_; try with_reducible exact True.intro
    exact (fitK [] [0])
theorem otherEnds (ll : List (List Int)) (v but : Int) (hl : ll.length ≤ 9) (hr : ∀ j : Nat, j < ll.length → (rdR ll j).length = 2) : ConT Try.prog 148 [.ill ll, .i v, .i but] (.own 0 0 (ends ll v but ll.length).length) [.arr (.pair (.int .i64) (.pair (.int .i64) .unit)) ((ends ll v but ll.length).map agE) true] := by
  refine conT_of hmix hTab Try.func148 rfl rfl (by kernel_rfl) (by show 3 ≤ Try.f148.ntmps; decide) ?_
  refine stp ?_; try with_reducible exact True.intro
  refine ⟨Nat, fun k => k ≤ ll.length, fun k => ll.length - k, fun k => [(1, .i v), (2, .i but), (7, .own 0 0 (ends ll v but k).length), (12, .ill ll), (13, .i ll.length), (14, .i k)], fun k => [.arr (.pair (.int .i64) (.pair (.int .i64) .unit)) ((ends ll v but k).map agE) true], ⟨0, (fitK [] [0]), Nat.zero_le _⟩, fun k hk => ?_⟩
  dsimp only at hk ⊢
  have hel := ends_len (v := v) (but := but) k hk
  refine stp ?_; try with_reducible exact True.intro
  refine Br.mk (fun h => ?_) (fun h => ?_) <;> simp [-Int.ofNat_toNat] at h
  · have ql : List.length (rdT (.list (.int .i64)) ll (k : Int)) = (rdR ll k).length := rfl; have q0 : @Eq Int (rdT (.int .i64) (rdT (.list (.int .i64)) ll (k : Int)) 0) (rd (rdR ll k) 0) := rfl; have q1 : @Eq Int (rdT (.int .i64) (rdT (.list (.int .i64)) ll (k : Int)) 1) (rd (rdR ll k) 1) := rfl; have qlo : List.length (rdT (.list (.int .i64)) ll (((k : Int).toNat : Nat) : Int)) = (rdR ll k).length := rfl; have q0o : @Eq Int (rdT (.int .i64) (rdT (.list (.int .i64)) ll (((k : Int).toNat : Nat) : Int)) 0) (rd (rdR ll k) 0) := rfl; have q1o : @Eq Int (rdT (.int .i64) (rdT (.list (.int .i64)) ll (((k : Int).toNat : Nat) : Int)) 1) (rd (rdR ll k) 1) := rfl
    have hr2 := hr k h
    have hs := ends_succ (v := v) (but := but) h
    refine stp ?_; try with_reducible exact True.intro
    refine ⟨Nat, fun j => j ≤ 2, fun j => 2 - j, fun j => [(1, .i v), (2, .i but), (7, .own 0 0 (ends ll v but k ++ endJ v but k (rdR ll k) j).length), (8, .i k), (9, .il (rdR ll k)), (12, .ill ll), (13, .i ll.length), (14, .i k), (19, .i j)], fun j => [.arr (.pair (.int .i64) (.pair (.int .i64) .unit)) ((ends ll v but k ++ endJ v but k (rdR ll k) j).map agE) true], ⟨0, ?_, Nat.zero_le _⟩, fun j hj => ?_⟩
    · dsimp only
      rw [endJ_zero, List.append_nil]
      exact (fitK [] [0])
    dsimp only at hj ⊢
    have hjl := endJ_len v but k (rdR ll k) j
    have hll : (ends ll v but k ++ endJ v but k (rdR ll k) j).length ≤ 20 := by simp; omega
    refine stp ?_; try with_reducible exact True.intro
    refine Br.mk (fun h2 => ?_) (fun h2 => ?_) <;> simp [-Int.ofNat_toNat] at h2
    · have hsj := endJ_succ (v := v) (but := but) (e := k) (r := rdR ll k) (by omega : j < 2)
      refine stp ?_; try with_reducible exact True.intro
      refine Br.mk (fun h3 => ?_) (fun h3 => ?_) <;> simp [-Int.ofNat_toNat] at h3
      · refine stp ?_; try with_reducible exact True.intro
        refine Br.mk (fun h4 => ?_) (fun h4 => ?_) <;> simp [-Int.ofNat_toNat] at h4
        · rw [if_pos ⟨h3, h4⟩] at hsj
          refine stp ?_; try with_reducible exact True.intro
          refine ⟨j + 1, ⟨.frz [], [2], ⟨rfl, rfl, ?_, rfl, rfl, rfl, rfl, rfl, rfl, trivial⟩, ⟨?_, trivial⟩, by decide, rfl, rfl, rfl⟩, by first | ((try dsimp only); omega) | (simp; omega), by first | ((try dsimp only); omega) | (simp; omega)⟩
          · simp [hsj, V.ren, EnvV.ev, EnvV.upd]; omega
          · simp [hsj, Obj.ren, frzI, List.take_of_length_le, agE]
        · rw [if_neg (fun c => h4 c.2)] at hsj
          refine stp ?_; try with_reducible exact True.intro
          refine ⟨j + 1, ⟨.frz [], [0], ⟨rfl, rfl, by rw [hsj]; rfl, rfl, rfl, rfl, rfl, rfl, rfl, trivial⟩, ⟨by rw [hsj]; rfl, trivial⟩, by decide, rfl, rfl, rfl⟩, by first | ((try dsimp only); omega) | (simp; omega), by first | ((try dsimp only); omega) | (simp; omega)⟩
      · rw [if_neg (fun c => c.1 h3)] at hsj
        refine stp ?_; try with_reducible exact True.intro
        refine ⟨j + 1, ⟨.frz [], [0], ⟨rfl, rfl, by rw [hsj]; rfl, rfl, rfl, rfl, rfl, rfl, rfl, trivial⟩, ⟨by rw [hsj]; rfl, trivial⟩, by decide, rfl, rfl, rfl⟩, by first | ((try dsimp only); omega) | (simp; omega), by first | ((try dsimp only); omega) | (simp; omega)⟩
    · obtain rfl : j = 2 := by omega
      refine stp ?_; try with_reducible exact True.intro
      refine ⟨k + 1, ⟨.frz [], [0], ⟨rfl, rfl, by rw [hs, ← endJ_two]; rfl, rfl, rfl, rfl, trivial⟩, ⟨by rw [hs, ← endJ_two]; rfl, trivial⟩, by decide, rfl, rfl, rfl⟩, h, by first | ((try dsimp only); omega) | (simp; omega)⟩
  · obtain rfl : k = ll.length := by omega
    refine stp ?_; try with_reducible exact True.intro
    exact (fitK [] [0])
end Go.Proofs.YtldjlonofclelaaTv
end
section
open Go Go.Proofs.YtldjlonofclelaaVe Go.Proofs.YtldjlonofclelaaTv Go.Proofs
namespace Go.Proofs.YtldjlonofclelaaTv
set_option maxRecDepth 8000
set_option maxHeartbeats 2000000
def setE (ll : List (List Int)) (p : Nat × Nat) (x : Int) : List (List Int) := ll.set p.1 ((ll.getD p.1 []).set p.2 x)
def normE (r : List Int) : List Int := [min (rd r 0) (rd r 1), max (rd r 0) (rd r 1)]
def endA (ll : List (List Int)) (e : Nat) : Nat × Nat := (ends ll (rd (rdR ll e) 0) e ll.length).getD 1 (0, 0)
def endB (ll : List (List Int)) (e way : Nat) : Nat × Nat := (ends ll (rd (rdR ll e) 1) e ll.length).getD way (0, 0)
def swp0 (ll : List (List Int)) (e way : Nat) : List (List Int) := setE (setE ll (endA ll e) (rd (rdR ll e) 1)) (endB ll e way) (rd (rdR ll e) 0)
def swp (ll : List (List Int)) (e way : Nat) : List (List Int) := (swp0 ll e way).map normE
@[simp] theorem setE_length (ll : List (List Int)) (p : Nat × Nat) (x : Int) : (setE ll p x).length = ll.length := by simp [setE]
theorem getD_in {α : Type} {l : List α} {i : Nat} {d : α} (h : i < l.length) : l.getD i d ∈ l := by
  rw [List.getD_eq_getElem?_getD, List.getElem?_eq_getElem h]
  exact List.getElem_mem h
theorem rowLen_setE {ll : List (List Int)} {p : Nat × Nat} {x : Int} (h : ∀ r ∈ ll, r.length = 2) (hp : p.1 < ll.length) : ∀ r ∈ setE ll p x, r.length = 2 := fun r hr => by
  rcases List.mem_or_eq_of_mem_set hr with h1 | h1
  · exact h r h1
  · rw [h1, List.length_set]
    exact h _ (getD_in hp)
structure SwpF (ll : List (List Int)) (e way : Nat) : Prop where
  len : ll.length ≤ 9
  row : ∀ r ∈ ll, r.length = 2
  lu : (ends ll (rd (rdR ll e) 0) e ll.length).length = 2
  lv : (ends ll (rd (rdR ll e) 1) e ll.length).length = 2
  a1 : (endA ll e).1 < ll.length
  a2 : (endA ll e).2 < 2
  b1 : (endB ll e way).1 < ll.length
  b2 : (endB ll e way).2 < 2
theorem swp_facts {g : Int} {ll : List (List Int)} (h : isPants g ll = true) {e way : Nat} (he : e < ll.length) (hne : rd (rdR ll e) 0 ≠ rd (rdR ll e) 1) (hw : way < 2) : SwpF ll e way := by
  obtain ⟨n, hn, n2, n6, hg, hlen, hl9, hok⟩ := pants_facts h
  have l1 := ends_two h he hne (.inl rfl)
  have l2 := ends_two h he hne (.inr rfl)
  have e1 := endsF_in (v := rd (rdR ll e) 0) (but := (e : Int)) 0 (ll.take ll.length) _ (getD_in (d := (0, 0)) (i := 1) (by unfold ends at l1; omega))
  have e2 := endsF_in (v := rd (rdR ll e) 1) (but := (e : Int)) 0 (ll.take ll.length) _ (getD_in (d := (0, 0)) (i := way) (by unfold ends at l2; omega))
  rw [List.take_length] at e1 e2
  refine ⟨hl9, fun r hr => ?_, l1, l2, ?_, ?_, ?_, ?_⟩
  · obtain ⟨j, hj⟩ := List.mem_iff_getElem?.1 hr
    have h1 := (List.getElem?_eq_some_iff.1 hj).1
    have := (rowOk_facts (hok j h1)).1
    rwa [show rdR ll j = r by simp [rdR, hj]] at this
  · simpa [endA, ends] using e1.2.1
  · simpa [endA, ends] using e1.2.2
  · simpa [endB, ends] using e2.2.1
  · simpa [endB, ends] using e2.2.2
theorem encE_div {p : Nat × Nat} (h : p.2 < 2) : Int.tdiv (encE p) 2 = p.1 ∧ Int.tmod (encE p) 2 = p.2 := by
  unfold encE
  rw [Int.tdiv_eq_ediv_of_nonneg (by omega), Int.tmod_eq_emod_of_nonneg (by omega)]
  omega
theorem rd_map {l : List (Nat × Nat)} {i : Nat} (h : i < l.length) : rd (l.map encE) i = encE (l.getD i (0, 0)) := by
  simp [rd, h]
theorem l19Swap (ll : List (List Int)) (e way : Nat) (hF : SwpF ll e way) (he : e < ll.length) (hw : way < 2) : ConT Try.prog 151 [.ill ll, .i e, .i way] (.own 0 0 ll.length) [.arr (.list (.int .i64)) (swp ll e way) true] := by
  refine conT_of hmix hTab Try.func151 rfl rfl (by kernel_rfl) (by show 3 ≤ Try.f151.ntmps; decide) ?_
  obtain ⟨hl9, hrow, lu, lv, a1, a2, b1, b2⟩ := hF
  have hr : ∀ j : Nat, j < ll.length → (rdR ll j).length = 2 := fun j hj => hrow _ (by simp [rdR, hj])
  have hre := hr e he
  have ql : List.length (rdT (.list (.int .i64)) ll (e : Int)) = (rdR ll e).length := rfl; have q0 : @Eq Int (rdT (.int .i64) (rdT (.list (.int .i64)) ll (e : Int)) 0) (rd (rdR ll e) 0) := rfl; have q1 : @Eq Int (rdT (.int .i64) (rdT (.list (.int .i64)) ll (e : Int)) 1) (rd (rdR ll e) 1) := rfl; have qlo : List.length (rdT (.list (.int .i64)) ll (((e : Int).toNat : Nat) : Int)) = (rdR ll e).length := rfl; have q0o : @Eq Int (rdT (.int .i64) (rdT (.list (.int .i64)) ll (((e : Int).toNat : Nat) : Int)) 0) (rd (rdR ll e) 0) := rfl; have q1o : @Eq Int (rdT (.int .i64) (rdT (.list (.int .i64)) ll (((e : Int).toNat : Nat) : Int)) 1) (rd (rdR ll e) 1) := rfl
  refine stp ?_; try with_reducible exact True.intro
  refine useT (l19Ends ll (rd (rdR ll e) 0) e hl9 hr) ?_; try with_reducible exact True.intro
  refine useT (l19Ends ll (rd (rdR ll e) 1) e hl9 hr) ?_; try with_reducible exact True.intro
  have ha : @Eq Int (rdT (.int .i64) (List.map encE (ends ll (rd (rdR ll e) 0) e ll.length)) ((Int.toNat 1 : Nat) : Int)) (encE (endA ll e)) := rd_map (by omega)
  have hb : @Eq Int (rdT (.int .i64) (List.map encE (ends ll (rd (rdR ll e) 1) e ll.length)) ((Int.toNat (way : Int) : Nat) : Int)) (encE (endB ll e way)) := rd_map (by omega)
  simp only [ha, hb]
  obtain ⟨da, ma⟩ := encE_div a2
  obtain ⟨db, mb⟩ := encE_div b2
  have hswp : swp ll e way = (setE (setE ll (endA ll e) (rd (rdR ll e) 1)) (endB ll e way) (rd (rdR ll e) 0)).map normE := rfl
  rw [hswp]
  generalize endA ll e = a at *
  generalize endB ll e way = b at *
  have hrl : ∀ r ∈ ll, (r.length : Int) ≤ 274877906944 := fun r hr => by have := hrow r hr; omega
  refine useT (l5Copy ll (by omega) hrl) ?_; try with_reducible exact True.intro
  simp only [da, ma]
  have hga : (ll.getD ((a.1 : Nat) : Int).toNat []).length = 2 := hrow _ (getD_in a1)
  have hna : ∀ {p : Prop}, ll.getD ((a.1 : Nat) : Int).toNat [] = [] → p := fun he => by rw [he] at hga; cases hga
  have hL1 := rowLen_setE (x := rd (rdR ll e) 1) hrow a1
  have hL1l := setE_length ll a (rd (rdR ll e) 1)
  have hgb : ((setE ll a (rd (rdR ll e) 1)).getD ((b.1 : Nat) : Int).toNat []).length = 2 := hL1 _ (getD_in (by omega))
  refine .inr ⟨by first | rfl | trivial, by omega, ⟨fun he => hna he, ?_⟩⟩
  refine stp ?_; try with_reducible exact True.intro
  simp only [ma]
  refine stp ?_; try with_reducible exact True.intro
  have hset : List.set ll ((a.1 : Nat) : Int).toNat (List.set (ll.getD ((a.1 : Nat) : Int).toNat []) ((a.2 : Nat) : Int).toNat (rdT (.int .i64) (rdT (.list (.int .i64)) ll (e : Int)) 1)) = setE ll a (rd (rdR ll e) 1) := rfl
  simp only [db]
  refine .inr ⟨_, rfl, rfl, by simp, by simp, ?_⟩
  rw [hset]
  generalize setE ll a (rd (rdR ll e) 1) = L1 at *
  refine ⟨by simp; omega, ⟨fun he => absurd hgb (by rw [he]; decide), ?_⟩⟩
  refine stp ?_; try with_reducible exact True.intro
  simp only [mb]
  refine stp ?_; try with_reducible exact True.intro
  have hL2 := rowLen_setE (x := rd (rdR ll e) 0) hL1 (by omega : b.1 < L1.length)
  have hL2l := setE_length L1 b (rd (rdR ll e) 0)
  have hset2 : L1.set ((b.1 : Nat) : Int).toNat ((L1.getD ((b.1 : Nat) : Int).toNat []).set ((b.2 : Nat) : Int).toNat (rdT (.int .i64) (rdT (.list (.int .i64)) ll (e : Int)) 0)) = setE L1 b (rd (rdR ll e) 0) := rfl
  generalize hLL : setE L1 b (rd (rdR ll e) 0) = L2 at *
  refine ⟨Nat, fun k => k ≤ L2.length, fun k => L2.length - k, fun k => [(11, .own 0 0 ll.length), (12, .i k)], fun k => [.arr (.list (.int .i64)) ((L2.take k).map normE ++ L2.drop k) true], ⟨0, ⟨.jn 2 ⟨Nat.zero_le _, _, rfl, rfl, by simp, by simp, rfl⟩ (.frz []), [2], ⟨rfl, rfl, trivial⟩, ⟨?_, trivial⟩, by decide, rfl, rfl, rfl⟩, Nat.zero_le _⟩, fun k hk => ?_⟩
  · show some (Obj.arr (.list (.int .i64)) (L1.set ((b.1 : Nat) : Int).toNat ((L1.getD ((b.1 : Nat) : Int).toNat []).set ((b.2 : Nat) : Int).toNat (rdT (.int .i64) (rdT (.list (.int .i64)) ll (e : Int)) 0))) true) = _
    rw [hset2]
    simp [Obj.ren]
  dsimp only at hk ⊢
  have hlen : ((L2.take k).map normE ++ L2.drop k).length = ll.length := by simp; omega
  refine stp ?_; try with_reducible exact True.intro
  refine Br.mk (fun h2 => ?_) (fun h2 => ?_) <;> simp [-Int.ofNat_toNat] at h2
  · have hg : ((L2.take k).map normE ++ L2.drop k).getD (k : Int).toNat [] = rdR L2 k := by
      show ((L2.take k).map normE ++ L2.drop k).getD k [] = _
      rw [drop_consR (by omega), List.getD_eq_getElem?_getD, List.getElem?_append_right (by simp; omega)]
      simp [show k - min k L2.length = 0 by omega]
    have hg2 : (rdR L2 k).length = 2 := hL2 _ (by simp [rdR, show k < L2.length by omega])
    refine stp ?_; try with_reducible exact True.intro
    refine .inr ⟨by first | rfl | trivial, by omega, ⟨fun he => absurd hg2 (by rw [← hg, he]; decide), ?_⟩⟩
    simp only [hg]
    refine stp ?_; try with_reducible exact True.intro
    refine .inl ⟨rfl, ?_⟩
    refine stp ?_; try with_reducible exact True.intro
    refine .inl ⟨_, _, l1Min (rd (rdR L2 k) 0) (rd (rdR L2 k) 1), by repeat (first | exact trivial | refine ⟨by first | exact rfl | exact trivial | exact ⟨_, rfl, rfl⟩ | exact ⟨_, _, rfl, by first | (simp; done) | (simp; omega), by first | (simp; done) | (simp [List.take_of_length_le]; done) | (rw [List.drop_zero]; exact List.take_of_length_le (by first | omega | (simp; omega))) | (simp [List.take_of_length_le]; omega)⟩ | exact ⟨_, rfl, by first | (simp; done) | (simp; omega), by first | (simp; done) | (simp [List.take_of_length_le]; done) | (rw [List.drop_zero]; exact List.take_of_length_le (by first | omega | (simp; omega))) | (simp [List.take_of_length_le]; omega)⟩, ?_⟩), ?_⟩; refine stp ?_; try with_reducible exact True.intro
    refine .inl ⟨rfl, ?_⟩
    refine stp ?_; try with_reducible exact True.intro
    refine .inl ⟨rfl, ?_⟩
    refine stp ?_; try with_reducible exact True.intro
    refine .inl ⟨_, _, l1Max (rd (rdR L2 k) 0) (rd (rdR L2 k) 1), by repeat (first | exact trivial | refine ⟨by first | exact rfl | exact trivial | exact ⟨_, rfl, rfl⟩ | exact ⟨_, _, rfl, by first | (simp; done) | (simp; omega), by first | (simp; done) | (simp [List.take_of_length_le]; done) | (rw [List.drop_zero]; exact List.take_of_length_le (by first | omega | (simp; omega))) | (simp [List.take_of_length_le]; omega)⟩ | exact ⟨_, rfl, by first | (simp; done) | (simp; omega), by first | (simp; done) | (simp [List.take_of_length_le]; done) | (rw [List.drop_zero]; exact List.take_of_length_le (by first | omega | (simp; omega))) | (simp [List.take_of_length_le]; omega)⟩, ?_⟩), ?_⟩; refine stp ?_; try with_reducible exact True.intro
    have hset3 : ((L2.take k).map normE ++ L2.drop k).set (k : Int).toNat (normE (rdR L2 k)) = (L2.take (k + 1)).map normE ++ L2.drop (k + 1) := by
      show ((L2.take k).map normE ++ L2.drop k).set k (normE (rdR L2 k)) = _
      rw [take_succR (by omega), drop_consR (by omega), List.map_append, List.set_append_right _ _ (by simp; omega)]
      simp [show k - min k L2.length = 0 by omega]
    refine ⟨k + 1, ⟨.frz [], [0], ⟨rfl, rfl, trivial⟩, ⟨?_, trivial⟩, by decide, rfl, rfl, rfl⟩, by first | ((try dsimp only); omega) | (simp; omega), by first | ((try dsimp only); omega) | (simp; omega)⟩
    rw [← hset3]
    rfl
  · obtain rfl : k = L2.length := by omega
    refine stp ?_; try with_reducible exact True.intro
    exact (fitK [] [0])
end Go.Proofs.YtldjlonofclelaaTv
end
section
open Go Go.Proofs.YtldjlonofclelaaVe Go.Proofs.YtldjlonofclelaaTv Go.Proofs
namespace Go.Proofs.YtldjlonofclelaaTv
set_option maxRecDepth 8000
set_option maxHeartbeats 2000000
def swapOk (g : Int) (ll : List (List Int)) (e way : Int) : Bool := isPants g ll && (decide (0 ≤ e ∧ e ≤ (ll.length : Int) - 1) && (decide (0 ≤ way ∧ way ≤ 1) && decide (rd (rdR ll e) 0 ≠ rd (rdR ll e) 1)))
end Go.Proofs.YtldjlonofclelaaTv
end
section
open Go Go.Proofs.YtldjlonofclelaaVe Go.Proofs.YtldjlonofclelaaTv Go.Proofs
namespace Go.Proofs.YtldjlonofclelaaTv
set_option maxRecDepth 8000
set_option maxHeartbeats 2000000
theorem map_agE {l : List (Nat × Nat)} {i : Nat} (h : i < l.length) : (l.map agE).getD i (0, 0, ()) = agE (l.getD i (0, 0)) := by
  simp [h]
theorem SwapEndsI (g : Int) (ll : List (List Int)) (e way : Int) (hll : (ll.length : Int) ≤ 1048576) : ConT Try.prog 137 [.i g, .ill ll, .i e, .i way] (.tup [if swapOk g ll e way = true then .own 0 0 ll.length else .nil .unit, .b (swapOk g ll e way)]) (if swapOk g ll e way = true then [.arr (.list (.int .i64)) (swp ll e.toNat way.toNat) true] else []) := by
  refine conT_of hmix hTab Try.func137 rfl rfl (by kernel_rfl) (by show 4 ≤ Try.f137.ntmps; decide) ?_
  have hc := IsPantsI g ll hll
  cases hP : isPants g ll with
  | false =>
    rw [hP] at hc
    rw [show swapOk g ll e way = false by simp [swapOk, hP]]
    refine stp ?_; try with_reducible exact True.intro
    refine useT (hc.toT) ?_; try with_reducible exact True.intro
    exact (fitK [] [])
  | true =>
    rw [hP] at hc
    obtain ⟨n, hn, n2, n6, hg, hlen, hl9, hok⟩ := pants_facts hP
    by_cases he : 0 ≤ e ∧ e ≤ (ll.length : Int) - 1
    · obtain ⟨e, rfl⟩ : ∃ e' : Nat, e = e' := ⟨e.toNat, by omega⟩
      obtain ⟨r1, r2, r3, r4⟩ := rowOk_facts (hok e (by omega))
      have ql : List.length (rdT (.list (.int .i64)) ll (e : Int)) = (rdR ll e).length := rfl; have q0 : @Eq Int (rdT (.int .i64) (rdT (.list (.int .i64)) ll (e : Int)) 0) (rd (rdR ll e) 0) := rfl; have q1 : @Eq Int (rdT (.int .i64) (rdT (.list (.int .i64)) ll (e : Int)) 1) (rd (rdR ll e) 1) := rfl; have qlo : List.length (rdT (.list (.int .i64)) ll (((e : Int).toNat : Nat) : Int)) = (rdR ll e).length := rfl; have q0o : @Eq Int (rdT (.int .i64) (rdT (.list (.int .i64)) ll (((e : Int).toNat : Nat) : Int)) 0) (rd (rdR ll e) 0) := rfl; have q1o : @Eq Int (rdT (.int .i64) (rdT (.list (.int .i64)) ll (((e : Int).toNat : Nat) : Int)) 1) (rd (rdR ll e) 1) := rfl
      by_cases h2 : rd (rdR ll e) 0 = rd (rdR ll e) 1
      · rw [show swapOk g ll e way = false by simp [swapOk, h2]]
        refine stp ?_; try with_reducible exact True.intro
        refine useT (hc.toT) ?_; try with_reducible exact True.intro
        refine useT ((within e 0 ((ll.length : Int) - 1)).toT) ?_; try with_reducible exact True.intro
        simp only [he, and_self, decide_true]
        refine stp ?_; try with_reducible exact True.intro
        refine brT (decide_eq_true h2) ?_
        refine stp ?_; try with_reducible exact True.intro
        exact (fitK [] [])
      · by_cases hw : 0 ≤ way ∧ way ≤ 1
        · obtain ⟨way, rfl⟩ : ∃ w' : Nat, way = w' := ⟨way.toNat, by omega⟩
          rw [show swapOk g ll e way = true by simp [swapOk, hP, he, hw, h2]]
          obtain ⟨hl9, hrow, lu, lv, a1, a2, b1, b2⟩ := swp_facts (way := way) hP (by omega : e < ll.length) h2 (by omega)
          have hr : ∀ j : Nat, j < ll.length → (rdR ll j).length = 2 := fun j hj => hrow _ (by simp [rdR, hj])
          refine stp ?_; try with_reducible exact True.intro
          refine useT (hc.toT) ?_; try with_reducible exact True.intro
          refine useT ((within e 0 ((ll.length : Int) - 1)).toT) ?_; try with_reducible exact True.intro
          simp only [he, and_self, decide_true]
          refine stp ?_; try with_reducible exact True.intro
          refine brF (decide_eq_false h2) ?_
          refine stp ?_; try with_reducible exact True.intro
          refine useT ((within way 0 1).toT) ?_; try with_reducible exact True.intro
          simp only [hw, and_self, decide_true]
          refine stp ?_; try with_reducible exact True.intro
          refine .inr ⟨_, _, _, otherEnds ll (rd (rdR ll e) 0) e hl9 hr, by repeat (first | exact trivial | refine ⟨by first | exact rfl | exact trivial | exact ⟨_, rfl, rfl⟩ | exact ⟨_, _, rfl, by first | (simp; done) | (simp; omega), by first | (simp; done) | (simp [List.take_of_length_le]; done) | (rw [List.drop_zero]; exact List.take_of_length_le (by first | omega | (simp; omega))) | (simp [List.take_of_length_le]; omega)⟩ | exact ⟨_, rfl, by first | (simp; done) | (simp; omega), by first | (simp; done) | (simp [List.take_of_length_le]; done) | (rw [List.drop_zero]; exact List.take_of_length_le (by first | omega | (simp; omega))) | (simp [List.take_of_length_le]; omega)⟩, ?_⟩), rfl, rfl, by first | exact ⟨rfl, trivial⟩ | decide | (simp [okOs, okO]; done) | (simp [okOs, okO, okWs, okW, most]; done) | (simp [okOs, okO, okWs, okW, most]; omega), ?_⟩; refine stp ?_; try with_reducible exact True.intro
          refine .inr ⟨_, _, _, otherEnds ll (rd (rdR ll e) 1) e hl9 hr, by repeat (first | exact trivial | refine ⟨by first | exact rfl | exact trivial | exact ⟨_, rfl, rfl⟩ | exact ⟨_, _, rfl, by first | (simp; done) | (simp; omega), by first | (simp; done) | (simp [List.take_of_length_le]; done) | (rw [List.drop_zero]; exact List.take_of_length_le (by first | omega | (simp; omega))) | (simp [List.take_of_length_le]; omega)⟩ | exact ⟨_, rfl, by first | (simp; done) | (simp; omega), by first | (simp; done) | (simp [List.take_of_length_le]; done) | (rw [List.drop_zero]; exact List.take_of_length_le (by first | omega | (simp; omega))) | (simp [List.take_of_length_le]; omega)⟩, ?_⟩), rfl, rfl, by first | exact ⟨rfl, trivial⟩ | decide | (simp [okOs, okO]; done) | (simp [okOs, okO, okWs, okW, most]; done) | (simp [okOs, okO, okWs, okW, most]; omega), ?_⟩; refine stp ?_; try with_reducible exact True.intro
          have hA : @Eq (Int × Int × Unit) (rdT (.pair (.int .i64) (.pair (.int .i64) .unit)) (List.map agE (ends ll (rd (rdR ll e) 0) e ll.length)) ((Int.toNat 1 : Nat) : Int)) (agE (endA ll e)) := map_agE (by omega)
          have hB : @Eq (Int × Int × Unit) (rdT (.pair (.int .i64) (.pair (.int .i64) .unit)) (List.map agE (ends ll (rd (rdR ll e) 1) e ll.length)) ((Int.toNat (way : Int) : Nat) : Int)) (agE (endB ll e way)) := map_agE (by omega)
          simp only [hA, hB, agE]
          have hswp : swp ll e way = (setE (setE ll (endA ll e) (rd (rdR ll e) 1)) (endB ll e way) (rd (rdR ll e) 0)).map normE := rfl
          rw [show ((e : Int).toNat) = e from rfl, show ((way : Int).toNat) = way from rfl, hswp]
          generalize endA ll e = a at *
          generalize endB ll e way = b at *
          have hrl : ∀ r ∈ ll, (r.length : Int) ≤ 274877906944 := fun r hr => by have := hrow r hr; omega
          refine useT (copyRows ll (by omega) hrl) ?_; try with_reducible exact True.intro
          have hga : (ll.getD ((a.1 : Nat) : Int).toNat []).length = 2 := hrow _ (getD_in a1)
          have hna : ∀ {p : Prop}, ll.getD ((a.1 : Nat) : Int).toNat [] = [] → p := fun he => by rw [he] at hga; cases hga
          have hL1 := rowLen_setE (x := rd (rdR ll e) 1) hrow a1
          have hL1l := setE_length ll a (rd (rdR ll e) 1)
          have hgb : ((setE ll a (rd (rdR ll e) 1)).getD ((b.1 : Nat) : Int).toNat []).length = 2 := hL1 _ (getD_in (by omega))
          refine .inr ⟨by first | rfl | trivial, by omega, ⟨fun he => hna he, ?_⟩⟩
          refine stp ?_; try with_reducible exact True.intro
          have hset : List.set ll ((a.1 : Nat) : Int).toNat (List.set (ll.getD ((a.1 : Nat) : Int).toNat []) ((a.2 : Nat) : Int).toNat (rdT (.int .i64) (rdT (.list (.int .i64)) ll (e : Int)) 1)) = setE ll a (rd (rdR ll e) 1) := rfl
          refine .inr ⟨_, rfl, rfl, by simp, by simp, ?_⟩
          rw [hset]
          generalize setE ll a (rd (rdR ll e) 1) = L1 at *
          refine ⟨by simp; omega, ⟨fun he => absurd hgb (by rw [he]; decide), ?_⟩⟩
          refine stp ?_; try with_reducible exact True.intro
          have hL2 := rowLen_setE (x := rd (rdR ll e) 0) hL1 (by omega : b.1 < L1.length)
          have hL2l := setE_length L1 b (rd (rdR ll e) 0)
          have hset2 : L1.set ((b.1 : Nat) : Int).toNat ((L1.getD ((b.1 : Nat) : Int).toNat []).set ((b.2 : Nat) : Int).toNat (rdT (.int .i64) (rdT (.list (.int .i64)) ll (e : Int)) 0)) = setE L1 b (rd (rdR ll e) 0) := rfl
          generalize hLL : setE L1 b (rd (rdR ll e) 0) = L2 at *
          refine ⟨Nat, fun k => k ≤ L2.length, fun k => L2.length - k, fun k => [(14, .own 0 0 ll.length), (94, .own 0 0 ll.length), (95, .i ll.length), (96, .i k)], fun k => [.arr (.list (.int .i64)) ((L2.take k).map normE ++ L2.drop k) true], ⟨0, ⟨.jn 4 ⟨Nat.zero_le _, _, rfl, rfl, by simp, by simp, rfl⟩ (.frz []), [4], ⟨rfl, rfl, rfl, rfl, trivial⟩, ⟨?_, trivial⟩, by decide, rfl, rfl, rfl⟩, Nat.zero_le _⟩, fun k hk => ?_⟩
          · show some (Obj.arr (.list (.int .i64)) (L1.set ((b.1 : Nat) : Int).toNat ((L1.getD ((b.1 : Nat) : Int).toNat []).set ((b.2 : Nat) : Int).toNat (rdT (.int .i64) (rdT (.list (.int .i64)) ll (e : Int)) 0))) true) = _
            rw [hset2]
            simp [Obj.ren]
          dsimp only at hk ⊢
          have hlen : ((L2.take k).map normE ++ L2.drop k).length = ll.length := by simp; omega
          refine stp ?_; try with_reducible exact True.intro
          refine Br.mk (fun h2 => ?_) (fun h2 => ?_) <;> simp [-Int.ofNat_toNat] at h2
          · have hg : ((L2.take k).map normE ++ L2.drop k).getD (k : Int).toNat [] = rdR L2 k := by
              show ((L2.take k).map normE ++ L2.drop k).getD k [] = _
              rw [drop_consR (by omega), List.getD_eq_getElem?_getD, List.getElem?_append_right (by simp; omega)]
              simp [show k - min k L2.length = 0 by omega]
            have hg2 : (rdR L2 k).length = 2 := hL2 _ (by simp [rdR, show k < L2.length by omega])
            refine stp ?_; try with_reducible exact True.intro
            refine .inr ⟨by first | rfl | trivial, by omega, ⟨fun he => absurd hg2 (by rw [← hg, he]; decide), ?_⟩⟩
            simp only [hg]
            refine stp ?_; try with_reducible exact True.intro
            refine .inr ⟨_, _, _, pair (rd (rdR L2 k) 0) (rd (rdR L2 k) 1), by repeat (first | exact trivial | refine ⟨by first | exact rfl | exact trivial | exact ⟨_, rfl, rfl⟩ | exact ⟨_, _, rfl, by first | (simp; done) | (simp; omega), by first | (simp; done) | (simp [List.take_of_length_le]; done) | (rw [List.drop_zero]; exact List.take_of_length_le (by first | omega | (simp; omega))) | (simp [List.take_of_length_le]; omega)⟩ | exact ⟨_, rfl, by first | (simp; done) | (simp; omega), by first | (simp; done) | (simp [List.take_of_length_le]; done) | (rw [List.drop_zero]; exact List.take_of_length_le (by first | omega | (simp; omega))) | (simp [List.take_of_length_le]; omega)⟩, ?_⟩), rfl, rfl, by first | exact ⟨rfl, trivial⟩ | decide | (simp [okOs, okO]; done) | (simp [okOs, okO, okWs, okW, most]; done) | (simp [okOs, okO, okWs, okW, most]; omega), ?_⟩; refine stp ?_; try with_reducible exact True.intro
            have hset3 : ((L2.take k).map normE ++ L2.drop k).set (k : Int).toNat (normE (rdR L2 k)) = (L2.take (k + 1)).map normE ++ L2.drop (k + 1) := by
              show ((L2.take k).map normE ++ L2.drop k).set k (normE (rdR L2 k)) = _
              rw [take_succR (by omega), drop_consR (by omega), List.map_append, List.set_append_right _ _ (by simp; omega)]
              simp [show k - min k L2.length = 0 by omega]
            refine ⟨k + 1, ⟨.frz [], [0], ⟨rfl, rfl, rfl, rfl, trivial⟩, ⟨?_, trivial⟩, by decide, rfl, rfl, rfl⟩, by first | ((try dsimp only); omega) | (simp; omega), by first | ((try dsimp only); omega) | (simp; omega)⟩
            rw [← hset3]
            rfl
          · obtain rfl : k = L2.length := by omega
            refine stp ?_; try with_reducible exact True.intro
            exact (fitK [] [0])
        · rw [show swapOk g ll e way = false by simp only [swapOk, hw, decide_false, Bool.false_and, Bool.and_false]]
          refine stp ?_; try with_reducible exact True.intro
          refine useT (hc.toT) ?_; try with_reducible exact True.intro
          refine useT ((within e 0 ((ll.length : Int) - 1)).toT) ?_; try with_reducible exact True.intro
          simp only [he, and_self, decide_true]
          refine stp ?_; try with_reducible exact True.intro
          refine brF (decide_eq_false h2) ?_
          refine stp ?_; try with_reducible exact True.intro
          refine useT ((within way 0 1).toT) ?_; try with_reducible exact True.intro
          simp only [hw, decide_false]
          refine stp ?_; try with_reducible exact True.intro
          exact (fitK [] [])
    · rw [show swapOk g ll e way = false by simp only [swapOk, he, decide_false, Bool.false_and, Bool.and_false]]
      refine stp ?_; try with_reducible exact True.intro
      refine useT (hc.toT) ?_; try with_reducible exact True.intro
      refine useT ((within e 0 ((ll.length : Int) - 1)).toT) ?_; try with_reducible exact True.intro
      simp only [he, decide_false]
      refine stp ?_; try with_reducible exact True.intro
      exact (fitK [] [])
end Go.Proofs.YtldjlonofclelaaTv
end
section
open Go Go.Proofs.YtldjlonofclelaaVe Go.Proofs.YtldjlonofclelaaTv Go.Proofs
namespace Go.Proofs.YtldjlonofclelaaTv
set_option maxRecDepth 8000
set_option maxHeartbeats 2000000
theorem swp_length (ll : List (List Int)) (e way : Nat) : (swp ll e way).length = ll.length := by simp [swp, swp0]
theorem swp_row (ll : List (List Int)) (e way : Nat) : ∀ r ∈ swp ll e way, r.length ≤ 2 := fun r hr => by
  obtain ⟨x, _, rfl⟩ := List.mem_map.1 hr
  simp [normE]
end Go.Proofs.YtldjlonofclelaaTv
end
section
open Go Go.Proofs.YtldjlonofclelaaVe Go.Proofs.YtldjlonofclelaaTv Go.Proofs
namespace Go.Proofs.YtldjlonofclelaaTv
set_option maxRecDepth 8000
set_option maxHeartbeats 2000000
def gtP (e f : List Int) : Bool := decide (rd e 0 > rd f 0) || (decide (rd e 0 = rd f 0) && decide (rd e 1 > rd f 1))
/-- Where a pair comes in, from the end of an ascending list on. -/
def posP (out : List (List Int)) (own : List Int) : Nat → Nat
  | 0 => 0
  | k + 1 => if gtP (rdR out k) own = true then posP out own k else k + 1
def insP (out : List (List Int)) (own : List Int) : List (List Int) := out.take (posP out own out.length) ++ own :: out.drop (posP out own out.length)
def pairN (names e : List Int) : List Int := [min (rd names (rd e 0)) (rd names (rd e 1)), max (rd names (rd e 0)) (rd names (rd e 1))]
def renF (ll : List (List Int)) (names : List Int) (i : Nat) : List (List Int) := (ll.take i).foldl (fun out e => insP out (pairN names e)) []
theorem posP_le (out : List (List Int)) (own : List Int) : ∀ k, posP out own k ≤ k
  | 0 => Nat.le_refl _
  | k + 1 => by
    unfold posP
    split
    · exact Nat.le_succ_of_le (posP_le out own k)
    · exact Nat.le_refl _
theorem insP_length (out : List (List Int)) (own : List Int) : (insP out own).length = out.length + 1 := by
  have := posP_le out own out.length
  simp [insP]; omega
theorem insP_row {out : List (List Int)} {own : List Int} (h : ∀ r ∈ out, r.length = 2) (h2 : own.length = 2) : ∀ r ∈ insP out own, r.length = 2 := fun r hr => by
  rcases List.mem_append.1 hr with h1 | h1
  · exact h r (List.mem_of_mem_take h1)
  · rcases List.mem_cons.1 h1 with rfl | h1
    · exact h2
    · exact h r (List.mem_of_mem_drop h1)
theorem renF_succ {ll : List (List Int)} {names : List Int} {i : Nat} (h : i < ll.length) : renF ll names (i + 1) = insP (renF ll names i) (pairN names (rdR ll i)) := by
  unfold renF
  rw [take_succR h, List.foldl_append]
  rfl
theorem renF_facts {ll : List (List Int)} {names : List Int} : ∀ i, i ≤ ll.length → (renF ll names i).length = i ∧ ∀ r ∈ renF ll names i, r.length = 2
  | 0, _ => by simp [renF]
  | i + 1, h => by
    obtain ⟨h1, h2⟩ := renF_facts (ll := ll) (names := names) i (Nat.le_of_succ_le h)
    have hi : i < ll.length := h
    rw [renF_succ hi]
    exact ⟨by rw [insP_length, h1], insP_row h2 rfl⟩
theorem shift_eq {out : List (List Int)} {own : List Int} {j k n : Nat} (hj : j = k) (hk : k ≤ out.length) (hn : n = out.length - k) : (List.take j (out ++ [[]]) ++ [] :: List.take n (List.drop j (out ++ [[]]))).set j own = out.take k ++ own :: out.drop k := by
  subst hj; subst hn
  have e : (out.take j).length = j := by simp; omega
  rw [List.take_append_of_le_length hk, List.drop_append_of_le_length hk, List.take_append_of_le_length (by simp), List.take_of_length_le (l := out.drop j) (by simp), List.set_append_right _ _ (by omega), e, Nat.sub_self, List.set_cons_zero]
theorem set_self {out : List (List Int)} {j k : Nat} (hj : j = k) : out.set j (rdR out k) = out := by
  subst hj
  rcases Nat.lt_or_ge j out.length with h | h
  · simp [rdR, h]
  · exact List.set_eq_of_length_le h
theorem renamed (ll : List (List Int)) (names : List Int) (hl : ll.length ≤ 9) (hr : ∀ j : Nat, j < ll.length → (rdR ll j).length = 2 ∧ (0 ≤ rd (rdR ll j) 0 ∧ rd (rdR ll j) 0 < names.length) ∧ (0 ≤ rd (rdR ll j) 1 ∧ rd (rdR ll j) 1 < names.length)) : ConT Try.prog 135 [.ill ll, .il names] (.own 0 0 ll.length) [.arr (.list (.int .i64)) (renF ll names ll.length) true] := by
  refine conT_of hmix hTab Try.func135 rfl rfl (by kernel_rfl) (by show 2 ≤ Try.f135.ntmps; decide) ?_
  have hlast := (renF_facts (names := names) ll.length (Nat.le_refl _)).1
  refine stp ?_; try with_reducible exact True.intro
  refine Or.inl ?_; refine stp ?_; try with_reducible exact True.intro
  refine ⟨Nat, fun i => i ≤ ll.length, fun i => ll.length - i, fun i => [(1, .il names), (5, .own 0 0 (renF ll names i).length), (11, .ill ll), (12, .i ll.length), (13, .i i)], fun i => [.arr (.list (.int .i64)) (renF ll names i) true], ⟨0, (fitK [] [0]), Nat.zero_le _⟩, fun i hi => ?_⟩
  dsimp only at hi ⊢
  obtain ⟨hol, hor⟩ := renF_facts (names := names) i hi
  refine stp ?_; try with_reducible exact True.intro
  refine Br.mk (fun h => ?_) (fun h => ?_) <;> simp [-Int.ofNat_toNat] at h
  · obtain ⟨hr1, hr2, hr3⟩ := hr i h
    have hs := renF_succ (names := names) h
    have ql : List.length (rdT (.list (.int .i64)) ll (i : Int)) = (rdR ll i).length := rfl; have q0 : @Eq Int (rdT (.int .i64) (rdT (.list (.int .i64)) ll (i : Int)) 0) (rd (rdR ll i) 0) := rfl; have q1 : @Eq Int (rdT (.int .i64) (rdT (.list (.int .i64)) ll (i : Int)) 1) (rd (rdR ll i) 1) := rfl; have qlo : List.length (rdT (.list (.int .i64)) ll (((i : Int).toNat : Nat) : Int)) = (rdR ll i).length := rfl; have q0o : @Eq Int (rdT (.int .i64) (rdT (.list (.int .i64)) ll (((i : Int).toNat : Nat) : Int)) 0) (rd (rdR ll i) 0) := rfl; have q1o : @Eq Int (rdT (.int .i64) (rdT (.list (.int .i64)) ll (((i : Int).toNat : Nat) : Int)) 1) (rd (rdR ll i) 1) := rfl
    generalize hout : renF ll names i = out at *
    refine stp ?_; try with_reducible exact True.intro
    refine useT (pair (rd names (rd (rdR ll i) 0)) (rd names (rd (rdR ll i) 1))) ?_; try with_reducible exact True.intro
    have hown : [min (rd names (rd (rdR ll i) 0)) (rd names (rd (rdR ll i) 1)), max (rd names (rd (rdR ll i) 0)) (rd names (rd (rdR ll i) 1))] = pairN names (rdR ll i) := rfl
    simp only [hown]
    have hownl : (pairN names (rdR ll i)).length = 2 := rfl
    generalize pairN names (rdR ll i) = own at *
    refine ⟨Nat, fun k => k ≤ out.length ∧ posP out own out.length = posP out own k, fun k => k, fun k => [(1, .il names), (5, .own 0 0 out.length), (8, .own 1 0 2), (9, .i k), (11, .ill ll), (12, .i ll.length), (13, .i i)], fun k => [.arr (.list (.int .i64)) out true, .arr (.int .i64) own true], ⟨out.length, (fitK [] [0, 1]), Nat.le_refl _, rfl⟩, fun k ⟨hk, hpos⟩ => ?_⟩
    dsimp only at hk hpos ⊢
    cases k with
    | zero =>
      have hins : insP out own = out.take 0 ++ own :: out.drop 0 := by unfold insP; rw [hpos]; rfl
      refine stp ?_; try with_reducible exact True.intro
      refine Or.inl ?_
      refine stp ?_; try with_reducible exact True.intro
      refine Or.inl ⟨_, _, rfl, rfl, by decide, rfl, by first | rfl | omega | (simp; done) | (simp; omega), rfl, by first | rfl | omega | (simp; done) | (simp; omega), by first | omega | (simp; omega), ?_⟩; refine stp ?_; try with_reducible exact True.intro
      refine ⟨i + 1, ⟨.frz [], [3], ⟨rfl, ?_, rfl, rfl, rfl, trivial⟩, ⟨?_, trivial⟩, by decide, rfl, rfl, rfl⟩, by first | ((try dsimp only); omega) | (simp; omega), by first | ((try dsimp only); omega) | (simp; omega)⟩
      · rw [hs, insP_length]; rfl
      · rw [hs, hins]
        exact congrArg (fun x => some (Obj.arr (.list (.int .i64)) x true)) (shift_eq (k := 0) (by rfl) (Nat.zero_le _) (by simp))
    | succ k =>
      rw [posP] at hpos
      have hrow2 : (rdR out k).length = 2 := hor _ (by simp [rdR, show k < out.length by omega])
      have hg : out.getD (((k + 1 : Nat) : Int) - 1).toNat [] = rdR out k := by
        rw [show (((k + 1 : Nat) : Int) - 1).toNat = k by omega]; rfl
      have hne : ∀ {p : Prop}, out.getD (((k + 1 : Nat) : Int) - 1).toNat [] = [] → p := fun he => by rw [hg] at he; rw [he] at hrow2; cases hrow2
      refine stp ?_; try with_reducible exact True.intro
      refine brT (decide_eq_true (by omega)) ?_
      refine stp ?_; try with_reducible exact True.intro
      refine .inr ⟨by first | rfl | trivial, by omega, ⟨fun he => hne he, ?_⟩⟩
      simp only [hg]
      refine stp ?_; try with_reducible exact True.intro
      have hset : out.set (((k + 1 : Nat) : Int) - 1).toNat (rdR out k) = out := set_self (by omega)
      have hins : k + 1 = posP out own out.length → insP out own = out.take (k + 1) ++ own :: out.drop (k + 1) := fun e => by unfold insP; rw [← e]
      refine Br.mk (fun c1 => ?_) (fun c1 => ?_) <;> simp only [decide_eq_true_eq, decide_eq_false_iff_not, ne_eq, Decidable.not_not, Bool.not_eq_eq_eq_not, Bool.not_true, Bool.not_false] at c1
      · replace c1 : rd own 0 < rd (rdR out k) 0 := c1
        rw [if_pos (by simp [gtP, c1])] at hpos
        refine stp ?_; try with_reducible exact True.intro
        refine ⟨k, ⟨.jn 0 ⟨Nat.zero_le _, _, rfl, rfl, by simp, by simp, rfl⟩ (.frz []), [0, 1], ⟨rfl, rfl, rfl, ?_, rfl, rfl, rfl, trivial⟩, ⟨?_, rfl, trivial⟩, by decide, rfl, rfl, rfl⟩, ⟨by omega, hpos⟩, by first | ((try dsimp only); omega) | (simp; omega)⟩
        · show V.i (((k + 1 : Nat) : Int) - 1) = V.i (k : Int)
          rw [show ((k + 1 : Nat) : Int) - 1 = (k : Int) by omega]
        · show some (Obj.arr (.list (.int .i64)) (out.set (((k + 1 : Nat) : Int) - 1).toNat (rdR out k)) true) = _
          rw [hset]
          rfl
      · replace c1 : ¬ rd own 0 < rd (rdR out k) 0 := c1
        refine stp ?_; try with_reducible exact True.intro
        refine .inl ⟨rfl, ?_⟩
        refine stp ?_; try with_reducible exact True.intro
        refine Br.mk (fun c2 => ?_) (fun c2 => ?_) <;> simp only [decide_eq_true_eq, decide_eq_false_iff_not, ne_eq, Decidable.not_not, Bool.not_eq_eq_eq_not, Bool.not_true, Bool.not_false] at c2
        · replace c2 : rd (rdR out k) 0 = rd own 0 := c2
          refine stp ?_; try with_reducible exact True.intro
          refine .inl ⟨rfl, ?_⟩
          refine stp ?_; try with_reducible exact True.intro
          refine Br.mk (fun c3 => ?_) (fun c3 => ?_) <;> simp only [decide_eq_true_eq, decide_eq_false_iff_not, ne_eq, Decidable.not_not, Bool.not_eq_eq_eq_not, Bool.not_true, Bool.not_false] at c3
          · replace c3 : rd own 1 < rd (rdR out k) 1 := c3
            rw [if_pos (by simp [gtP, c2, c3])] at hpos
            refine stp ?_; try with_reducible exact True.intro
            refine ⟨k, ⟨.jn 0 ⟨Nat.zero_le _, _, rfl, rfl, by simp, by simp, rfl⟩ (.frz []), [0, 1], ⟨rfl, rfl, rfl, ?_, rfl, rfl, rfl, trivial⟩, ⟨?_, rfl, trivial⟩, by decide, rfl, rfl, rfl⟩, ⟨by omega, hpos⟩, by first | ((try dsimp only); omega) | (simp; omega)⟩
            · show V.i (((k + 1 : Nat) : Int) - 1) = V.i (k : Int)
              rw [show ((k + 1 : Nat) : Int) - 1 = (k : Int) by omega]
            · show some (Obj.arr (.list (.int .i64)) (out.set (((k + 1 : Nat) : Int) - 1).toNat (rdR out k)) true) = _
              rw [hset]
              rfl
          · replace c3 : ¬ rd own 1 < rd (rdR out k) 1 := c3
            rw [if_neg (by simp [gtP, c2]; omega)] at hpos
            refine stp ?_; try with_reducible exact True.intro
            refine Or.inl ?_
            refine stp ?_; try with_reducible exact True.intro
            simp only [hset]
            refine Or.inl ⟨_, _, rfl, rfl, by decide, rfl, by first | rfl | omega | (simp; done) | (simp; omega), rfl, by first | rfl | omega | (simp; done) | (simp; omega), by first | omega | (simp; omega), ?_⟩; refine stp ?_; try with_reducible exact True.intro
            refine ⟨i + 1, ⟨.frz [], [4], ⟨rfl, ?_, rfl, rfl, rfl, trivial⟩, ⟨?_, trivial⟩, by decide, rfl, rfl, rfl⟩, by first | ((try dsimp only); omega) | (simp; omega), by first | ((try dsimp only); omega) | (simp; omega)⟩
            · rw [hs, insP_length]; rfl
            · rw [hs, hins (hpos.symm)]
              exact congrArg (fun x => some (Obj.arr (.list (.int .i64)) x true)) (shift_eq (k := k + 1) (by simp) hk (by simp; omega))
        · replace c2 : ¬ rd (rdR out k) 0 = rd own 0 := c2
          rw [if_neg (by simp [gtP, c2]; omega)] at hpos
          refine stp ?_; try with_reducible exact True.intro
          refine Or.inl ?_
          refine stp ?_; try with_reducible exact True.intro
          simp only [hset]
          refine Or.inl ⟨_, _, rfl, rfl, by decide, rfl, by first | rfl | omega | (simp; done) | (simp; omega), rfl, by first | rfl | omega | (simp; done) | (simp; omega), by first | omega | (simp; omega), ?_⟩; refine stp ?_; try with_reducible exact True.intro
          refine ⟨i + 1, ⟨.frz [], [4], ⟨rfl, ?_, rfl, rfl, rfl, trivial⟩, ⟨?_, trivial⟩, by decide, rfl, rfl, rfl⟩, by first | ((try dsimp only); omega) | (simp; omega), by first | ((try dsimp only); omega) | (simp; omega)⟩
          · rw [hs, insP_length]; rfl
          · rw [hs, hins (hpos.symm)]
            exact congrArg (fun x => some (Obj.arr (.list (.int .i64)) x true)) (shift_eq (k := k + 1) (by simp) hk (by simp; omega))
  · obtain rfl : i = ll.length := by omega
    rw [hol]
    refine stp ?_; try with_reducible exact True.intro
    exact (fitK [] [0])
end Go.Proofs.YtldjlonofclelaaTv
end
section
open Go Go.Proofs.YtldjlonofclelaaVe Go.Proofs.YtldjlonofclelaaTv Go.Proofs
namespace Go.Proofs.YtldjlonofclelaaTv
set_option maxRecDepth 8000
set_option maxHeartbeats 2000000
/-- The first difference of two lists of pairs. -/
def cmpF : List (List Int) → List (List Int) → Int
  | e :: a, f :: b => if rd e 0 ≠ rd f 0 then rd e 0 - rd f 0 else if rd e 1 ≠ rd f 1 then rd e 1 - rd f 1 else cmpF a b
  | _, _ => 0
def Small (a : List (List Int)) : Prop := ∀ j : Nat, j < a.length → (rdR a j).length = 2 ∧ (0 ≤ rd (rdR a j) 0 ∧ rd (rdR a j) 0 ≤ 1000) ∧ (0 ≤ rd (rdR a j) 1 ∧ rd (rdR a j) 1 ≤ 1000)
theorem l19Less (a b : List (List Int)) (hl : a.length ≤ 9) (hab : b.length = a.length) (ha : Small a) (hb : Small b) : ConS Try.prog 141 [.ill a, .ill b] (.b (decide (cmpF a b < 0))) := by
  refine conS_of hmix hTab Try.func141 rfl rfl (by kernel_rfl) (by show 2 ≤ Try.f141.ntmps; decide) rfl ?_
  refine stp ?_; try with_reducible exact True.intro
  refine ⟨Nat, fun i => i ≤ a.length ∧ cmpF (a.drop i) (b.drop i) = cmpF a b, fun i => a.length - i, fun i => [(0, .ill a), (1, .ill b), (5, .i i)], fun i => [], ⟨0, (fitK [] []), by simp⟩, fun i ⟨hi, hc⟩ => ?_⟩
  dsimp only at hi hc ⊢
  refine stp ?_; try with_reducible exact True.intro
  refine Br.mk (fun h1 => ?_) (fun h1 => ?_) <;> simp [-Int.ofNat_toNat] at h1
  · rw [drop_consR h1, drop_consR (by omega : i < b.length), cmpF] at hc
    obtain ⟨a0, a1, a2⟩ := ha i h1
    obtain ⟨b0, b1, b2⟩ := hb i (by omega)
    refine stp ?_; try with_reducible exact True.intro
    refine ⟨Nat, fun j => j ≤ 2 ∧ (1 ≤ j → rd (rdR a i) 0 = rd (rdR b i) 0) ∧ (2 ≤ j → rd (rdR a i) 1 = rd (rdR b i) 1), fun j => 2 - j, fun j => [(0, .ill a), (1, .ill b), (5, .i i), (6, .i j)], fun j => [], ⟨0, (fitK [] []), by simp⟩, fun j ⟨hj, hj1, hj2⟩ => ?_⟩
    dsimp only at hj hj1 hj2 ⊢
    have qa : List.length (rdT (.list (.int .i64)) a (i : Int)) = 2 := a0
    have qb : List.length (rdT (.list (.int .i64)) b (i : Int)) = 2 := b0
    refine stp ?_; try with_reducible exact True.intro
    refine Br.mk (fun h2 => ?_) (fun h2 => ?_) <;> simp [-Int.ofNat_toNat] at h2
    · obtain rfl | rfl : j = 0 ∨ j = 1 := by omega
      · refine stp ?_; try with_reducible exact True.intro
        refine Br.mk (fun h3 => ?_) (fun h3 => ?_) <;> simp only [decide_eq_true_eq, decide_eq_false_iff_not, ne_eq, Decidable.not_not, Bool.not_eq_eq_eq_not, Bool.not_true, Bool.not_false] at h3
        · replace h3 : ¬ rd (rdR a i) 0 = rd (rdR b i) 0 := h3
          rw [if_pos h3] at hc
          refine stp ?_; try with_reducible exact True.intro
          have e1 : (rd (rdR a i) 0 < rd (rdR b i) 0) ↔ cmpF a b < 0 := by omega
          show V.b (decide (rd (rdR a i) 0 < rd (rdR b i) 0)) = _
          simp only [e1]
        · replace h3 : rd (rdR a i) 0 = rd (rdR b i) 0 := h3
          refine stp ?_; try with_reducible exact True.intro
          exact ⟨1, (fitK [] []), ⟨by omega, fun _ => h3, fun h => by omega⟩, by first | ((try dsimp only); omega) | (simp; omega)⟩
      · refine stp ?_; try with_reducible exact True.intro
        refine Br.mk (fun h3 => ?_) (fun h3 => ?_) <;> simp only [decide_eq_true_eq, decide_eq_false_iff_not, ne_eq, Decidable.not_not, Bool.not_eq_eq_eq_not, Bool.not_true, Bool.not_false] at h3
        · replace h3 : ¬ rd (rdR a i) 1 = rd (rdR b i) 1 := h3
          rw [if_neg (fun c => c (hj1 (by omega))), if_pos h3] at hc
          refine stp ?_; try with_reducible exact True.intro
          have e1 : (rd (rdR a i) 1 < rd (rdR b i) 1) ↔ cmpF a b < 0 := by omega
          show V.b (decide (rd (rdR a i) 1 < rd (rdR b i) 1)) = _
          simp only [e1]
        · replace h3 : rd (rdR a i) 1 = rd (rdR b i) 1 := h3
          refine stp ?_; try with_reducible exact True.intro
          exact ⟨2, (fitK [] []), ⟨by omega, fun _ => hj1 (by omega), fun _ => h3⟩, by first | ((try dsimp only); omega) | (simp; omega)⟩
    · obtain rfl : j = 2 := by omega
      rw [if_neg (fun c => c (hj1 (by omega))), if_neg (fun c => c (hj2 (by omega)))] at hc
      refine stp ?_; try with_reducible exact True.intro
      exact ⟨i + 1, (fitK [] []), ⟨h1, hc⟩, by first | ((try dsimp only); omega) | (simp; omega)⟩
  · obtain rfl : i = a.length := by omega
    refine stp ?_; try with_reducible exact True.intro
    rw [List.drop_of_length_le (Nat.le_refl _), cmpF] at hc
    · rw [← hc]; rfl
    · intro e a' f b' h; cases h
theorem compareRows (a b : List (List Int)) (hl : a.length ≤ 9) (hab : b.length = a.length) (ha : Small a) (hb : Small b) : ConS Try.prog 136 [.ill a, .ill b] (.i (cmpF a b)) := by
  refine conS_of hmix hTab Try.func136 rfl rfl (by kernel_rfl) (by show 2 ≤ Try.f136.ntmps; decide) rfl ?_
  refine stp ?_; try with_reducible exact True.intro
  refine ⟨Nat, fun i => i ≤ a.length ∧ cmpF (a.drop i) (b.drop i) = cmpF a b, fun i => a.length - i, fun i => [(0, .ill a), (1, .ill b), (8, .i a.length), (9, .i i)], fun i => [], ⟨0, (fitK [] []), by simp⟩, fun i ⟨hi, hc⟩ => ?_⟩
  dsimp only at hi hc ⊢
  refine stp ?_; try with_reducible exact True.intro
  refine Br.mk (fun h1 => ?_) (fun h1 => ?_) <;> simp [-Int.ofNat_toNat] at h1
  · rw [drop_consR h1, drop_consR (by omega : i < b.length), cmpF] at hc
    obtain ⟨a0, a1, a2⟩ := ha i h1
    obtain ⟨b0, b1, b2⟩ := hb i (by omega)
    refine stp ?_; try with_reducible exact True.intro
    refine ⟨Nat, fun j => j ≤ 2 ∧ (1 ≤ j → rd (rdR a i) 0 = rd (rdR b i) 0) ∧ (2 ≤ j → rd (rdR a i) 1 = rd (rdR b i) 1), fun j => 2 - j, fun j => [(0, .ill a), (1, .ill b), (5, .i i), (8, .i a.length), (9, .i i), (16, .i (rdR a i).length), (17, .i j)], fun j => [], ⟨0, (fitK [] []), by simp⟩, fun j ⟨hj, hj1, hj2⟩ => ?_⟩
    dsimp only at hj hj1 hj2 ⊢
    have qa : List.length (rdT (.list (.int .i64)) a (i : Int)) = 2 := a0
    have qb : List.length (rdT (.list (.int .i64)) b (i : Int)) = 2 := b0
    have xa0 : @Eq Int (rdT (.int .i64) (rdT (.list (.int .i64)) a (i : Int)) ((0 : Nat) : Int)) (rd (rdR a i) 0) := rfl
    have xb0 : @Eq Int (rdT (.int .i64) (rdT (.list (.int .i64)) b (i : Int)) ((0 : Nat) : Int)) (rd (rdR b i) 0) := rfl
    have xa1 : @Eq Int (rdT (.int .i64) (rdT (.list (.int .i64)) a (i : Int)) ((1 : Nat) : Int)) (rd (rdR a i) 1) := rfl
    have xb1 : @Eq Int (rdT (.int .i64) (rdT (.list (.int .i64)) b (i : Int)) ((1 : Nat) : Int)) (rd (rdR b i) 1) := rfl
    refine stp ?_; try with_reducible exact True.intro
    refine Br.mk (fun h2 => ?_) (fun h2 => ?_) <;> simp only [decide_eq_true_eq, decide_eq_false_iff_not, ne_eq, Decidable.not_not, Bool.not_eq_eq_eq_not, Bool.not_true, Bool.not_false] at h2
    · obtain rfl | rfl : j = 0 ∨ j = 1 := by omega
      · refine stp ?_; try with_reducible exact True.intro
        refine Br.mk (fun h3 => ?_) (fun h3 => ?_) <;> simp only [decide_eq_true_eq, decide_eq_false_iff_not, ne_eq, Decidable.not_not, Bool.not_eq_eq_eq_not, Bool.not_true, Bool.not_false] at h3
        · replace h3 : ¬ rd (rdR a i) 0 = rd (rdR b i) 0 := h3
          rw [if_pos h3] at hc
          refine stp ?_; try with_reducible exact True.intro
          rw [← hc]
          rfl
        · replace h3 : rd (rdR a i) 0 = rd (rdR b i) 0 := h3
          refine stp ?_; try with_reducible exact True.intro
          exact ⟨1, (fitK [] []), ⟨by omega, fun _ => h3, fun h => by omega⟩, by first | ((try dsimp only); omega) | (simp; omega)⟩
      · refine stp ?_; try with_reducible exact True.intro
        refine Br.mk (fun h3 => ?_) (fun h3 => ?_) <;> simp only [decide_eq_true_eq, decide_eq_false_iff_not, ne_eq, Decidable.not_not, Bool.not_eq_eq_eq_not, Bool.not_true, Bool.not_false] at h3
        · replace h3 : ¬ rd (rdR a i) 1 = rd (rdR b i) 1 := h3
          rw [if_neg (fun c => c (hj1 (by omega))), if_pos h3] at hc
          refine stp ?_; try with_reducible exact True.intro
          rw [← hc]
          rfl
        · replace h3 : rd (rdR a i) 1 = rd (rdR b i) 1 := h3
          refine stp ?_; try with_reducible exact True.intro
          exact ⟨2, (fitK [] []), ⟨by omega, fun _ => hj1 (by omega), fun _ => h3⟩, by first | ((try dsimp only); omega) | (simp; omega)⟩
    · obtain rfl : j = 2 := by omega
      rw [if_neg (fun c => c (hj1 (by omega))), if_neg (fun c => c (hj2 (by omega)))] at hc
      refine stp ?_; try with_reducible exact True.intro
      exact ⟨i + 1, (fitK [] []), ⟨h1, hc⟩, by first | ((try dsimp only); omega) | (simp; omega)⟩
  · obtain rfl : i = a.length := by omega
    refine stp ?_; try with_reducible exact True.intro
    rw [List.drop_of_length_le (Nat.le_refl _), cmpF] at hc
    · rw [← hc]
    · intro e a' f b' h; cases h
end Go.Proofs.YtldjlonofclelaaTv
end
