/- What functions of the program give: each contract holds for all arguments that its own sentence names. -/
import Derived.Test.YtffiddkignmobaaDoorFnFnExactDescribeMap1
import Derived.Shelf.Strings.OnBuilder
import Derived.Shelf.LaysM
import Derived.Shelf.Strconv.Itoa3
import Derived.Lib.ItoaLen
set_option linter.unusedVariables false
set_option linter.unusedSimpArgs false
section
open Go Go.Proofs.YtffiddkignmobaaDoorVe Go.Proofs.YtffiddkignmobaaDoorTv Go.Proofs
namespace Go.Proofs.YtffiddkignmobaaDoorTv
set_option maxRecDepth 8000
set_option maxHeartbeats 2000000
theorem l3Find {n : Nat} {up : List Int} {f : Int → Int} (hF : Fo n up f) (x : Int) (hx : InR n x) : ConS Tryd.prog 178 [.il up, .i x] (.i (f x)) := by
  refine conS_of hmix hTab Tryd.func178 rfl rfl (by kernel_rfl) (by show 2 ≤ Tryd.f178.ntmps; decide) rfl ?_
  have hlen := hF.len
  obtain ⟨d0, hd0⟩ := hF.path x hx
  refine stp ?_; try with_reducible exact True.intro
  refine ⟨Nat × Int, fun a => InR n a.2 ∧ itr up a.1 a.2 = f x, fun a => a.1, fun a => [(0, .il up), (1, .i a.2)], fun a => [], ⟨(d0, x), (fitK [] []), hx, hd0⟩, fun ⟨d, y⟩ ⟨hy, hd⟩ => ?_⟩
  dsimp only at hy hd ⊢
  have hy1 := hy.1
  have hy2 : y < (up.length : Int) := by rw [hlen]; exact hy.2
  refine stp ?_; try with_reducible exact True.intro
  refine Br.mk (fun h => ?_) (fun h => ?_) <;> simp [-Int.ofNat_toNat] at h
  · refine stp ?_; try with_reducible exact True.intro
    cases d with
    | zero => exact absurd (by have h := hF.fix x hx; simp only [itr] at hd; rw [hd]; exact h) h
    | succ d => exact ⟨(d, rd up y), (fitK [] []), ⟨hF.inn y hy, hd⟩, by first | ((try dsimp only); omega) | (simp; omega)⟩
  · refine stp ?_; try with_reducible exact True.intro
    rw [← hd, itr_fix h d]
/-- The joins of the first k rows, but for the one that is skipped. -/
def jl (skip : Int) (ll : List (List Int)) : Nat → Int → Int
  | 0 => id
  | k + 1 => if (k : Int) = skip then jl skip ll k else joinF (jl skip ll k) (rd (rdR ll k) 0) (rd (rdR ll k) 1)
/-- Rows of two numbers below n. -/
def Ends (n : Nat) (ll : List (List Int)) : Prop := ∀ k : Nat, k < ll.length → (rdR ll k).length = 2 ∧ InR n (rd (rdR ll k) 0) ∧ InR n (rd (rdR ll k) 1)
theorem ints_succ (i : Nat) : ints (i + 1) = ints i ++ [(i : Int)] := by simp [ints, List.range_succ]
@[simp] theorem ints_len (i : Nat) : (ints i).length = i := by simp [ints]
theorem roots_succ (f : Int → Int) (i : Nat) : (rootsOf (i + 1) f).length = (rootsOf i f).length + if f i = i then 1 else 0 := by
  unfold rootsOf
  rw [ints_succ, List.filter_append, List.length_append]
  by_cases h : f i = i <;> simp [h]
theorem roots_len (f : Int → Int) (i : Nat) : (rootsOf i f).length ≤ i := by
  have := List.length_filter_le (fun x => f x == x) (ints i)
  rw [ints_len] at this
  exact this
end Go.Proofs.YtffiddkignmobaaDoorTv
end
section
open Go Go.Proofs.YtffiddkignmobaaDoorVe Go.Proofs.YtffiddkignmobaaDoorTv Go.Proofs
namespace Go.Proofs.YtffiddkignmobaaDoorTv
set_option maxRecDepth 8000
set_option maxHeartbeats 2000000
/-- The joiner: a struct that holds its list. -/
@[simp] def sJ (up : List Int) : List Obj := [.vars [.own 1 0 up.length], .arr (.int .i64) up true]
def sJ0 : Nat → List Obj
  | 0 => [.vars [.nil (.int .i64)]]
  | i + 1 => sJ (ints (i + 1))
theorem newJoiner (n : Nat) (hn : 1 ≤ n ∧ n ≤ 100000) : ConT Tryd.prog 124 [.i n] (.pcell 0 0) (sJ (ints n)) := by
  refine conT_of hmix hTab Tryd.func124 rfl rfl (by kernel_rfl) (by show 1 ≤ Tryd.f124.ntmps; decide) ?_
  refine stp ?_; try with_reducible exact True.intro
  refine ⟨Nat, fun i => i ≤ n, fun i => n - i, fun i => [(3, .pcell 0 0), (7, .i n), (8, .i i)], sJ0, ⟨0, (fitK [] [0]), Nat.zero_le _⟩, fun i hi => ?_⟩
  dsimp only at hi ⊢
  cases i with
  | zero =>
    refine stp ?_; try with_reducible exact True.intro
    refine Br.mk (fun h => ?_) (fun h => ?_) <;> simp [-Int.ofNat_toNat] at h
    · refine stp ?_; try with_reducible exact True.intro
      intro _
      refine stp ?_; try with_reducible exact True.intro
      exact ⟨1, (fitK [] [0, 2]), by first | ((try dsimp only); omega) | (simp; omega), by first | ((try dsimp only); omega) | (simp; omega)⟩
    · omega
  | succ i =>
    refine stp ?_; try with_reducible exact True.intro
    refine Br.mk (fun h => ?_) (fun h => ?_) <;> simp [-Int.ofNat_toNat] at h
    · refine stp ?_; try with_reducible exact True.intro
      exact ⟨i + 1 + 1, ⟨.frz [], [0, 3], ⟨rfl, rfl, rfl, trivial⟩, ⟨by simp [Obj.ren, frzI, ints_succ, V.rens, V.ren, V.cells, EnvV.ev, EnvV.upd, mkE], by simp [Obj.ren, frzI, ints_succ, List.take_of_length_le], trivial⟩, by decide, rfl, rfl, rfl⟩, by first | ((try dsimp only); omega) | (simp; omega), by first | ((try dsimp only); omega) | (simp; omega)⟩
    · refine stp ?_; try with_reducible exact True.intro
      obtain rfl : n = i + 1 := by omega
      exact (fitK [] [0, 1])
theorem top {n : Nat} {up : List Int} {f : Int → Int} (hF : Fo n up f) (x : Int) (hx : InR n x) : ConI Tryd.prog 191 [.pcell 0 0, .i x] (sJ up) (.i (f x)) (sJ up) := by
  refine conI_of hmix hTab Tryd.func191 rfl rfl (by kernel_rfl) (by show 2 ≤ Tryd.f191.ntmps; decide) ?_
  have hlen := hF.len
  obtain ⟨d0, hd0⟩ := hF.path x hx
  refine stp ?_; try with_reducible exact True.intro
  refine ⟨Nat × Int, fun a => InR n a.2 ∧ itr up a.1 a.2 = f x, fun a => a.1, fun a => [(0, .pcell 0 0), (1, .i a.2)], fun a => sJ up, ⟨(d0, x), (fitK [] [0, 1]), hx, hd0⟩, fun ⟨d, y⟩ ⟨hy, hd⟩ => ?_⟩
  dsimp only at hy hd ⊢
  have hy1 := hy.1
  have hy2 : y < (up.length : Int) := by rw [hlen]; exact hy.2
  refine stp ?_; try with_reducible exact True.intro
  refine Br.mk (fun h => ?_) (fun h => ?_) <;> simp [-Int.ofNat_toNat] at h
  · refine stp ?_; try with_reducible exact True.intro
    cases d with
    | zero => exact absurd (by have h := hF.fix x hx; simp only [itr] at hd; rw [hd]; exact h) h
    | succ d => exact ⟨(d, rd up y), (fitK [] [0, 1]), ⟨hF.inn y hy, hd⟩, by first | ((try dsimp only); omega) | (simp; omega)⟩
  · refine stp ?_; try with_reducible exact True.intro
    rw [← hd, itr_fix h d]
    exact (fitK [] [0, 1])
theorem join {n : Nat} {up : List Int} {f : Int → Int} (hF : Fo n up f) (a b : Int) (ha : InR n a) (hb : InR n b) : ∃ up' f', Fo n up' f' ∧ (∀ g, Ker n f g → Ker n f' (joinF g a b)) ∧ ConI Tryd.prog 125 [.pcell 0 0, .i a, .i b] (sJ up) (.tup []) (sJ up') := by
  have hlen := hF.len
  have ra := hF.rng a ha
  have rb := hF.rng b hb
  have ra1 := ra.1
  have ra2 : f a < (up.length : Int) := by rw [hlen]; exact ra.2
  have rb1 := rb.1
  have rb2 : f b < (up.length : Int) := by rw [hlen]; exact rb.2
  by_cases hc : f a > f b
  · refine ⟨up.set (f a).toNat (f b), joinF f a b, hF.join ha hb, fun g hg => hg.join ha hb, ?_⟩
    refine conI_of hmix hTab Tryd.func125 rfl rfl (by kernel_rfl) (by show 3 ≤ Tryd.f125.ntmps; decide) ?_
    refine stp ?_; try with_reducible exact True.intro
    refine useI [0, 1] (top hF a ha) ?_; try with_reducible exact True.intro
    refine useI [0, 1] (top hF b hb) ?_; try with_reducible exact True.intro
    refine brT (by simpa using hc) ?_
    refine stp ?_; try with_reducible exact True.intro
    exact (fitK [] [0, 1])
  · refine ⟨up.set (f b).toNat (f a), joinF f b a, hF.join hb ha, fun g hg => hg.joinR hb ha, ?_⟩
    refine conI_of hmix hTab Tryd.func125 rfl rfl (by kernel_rfl) (by show 3 ≤ Tryd.f125.ntmps; decide) ?_
    refine stp ?_; try with_reducible exact True.intro
    refine useI [0, 1] (top hF a ha) ?_; try with_reducible exact True.intro
    refine useI [0, 1] (top hF b hb) ?_; try with_reducible exact True.intro
    refine brF (by simpa using hc) ?_
    refine stp ?_; try with_reducible exact True.intro
    exact (fitK [] [0, 1])
theorem count {n : Nat} {up : List Int} {f : Int → Int} (hF : Fo n up f) (hn : n ≤ 100000) : ConI Tryd.prog 126 [.pcell 0 0] (sJ up) (.i (rootsOf n f).length) (sJ up) := by
  refine conI_of hmix hTab Tryd.func126 rfl rfl (by kernel_rfl) (by show 1 ≤ Tryd.f126.ntmps; decide) ?_
  obtain rfl := hF.len
  refine stp ?_; try with_reducible exact True.intro
  refine ⟨Nat, fun k => k ≤ up.length, fun k => up.length - k, fun k => [(3, .i (rootsOf k f).length), (9, .own 1 0 up.length), (10, .i up.length), (11, .i k)], fun k => sJ up, ⟨0, (fitK [] [0, 1]), Nat.zero_le _⟩, fun k hk => ?_⟩
  dsimp only at hk ⊢
  have hrl := roots_len f k
  have hs := roots_succ f k
  refine stp ?_; try with_reducible exact True.intro
  refine Br.mk (fun h => ?_) (fun h => ?_) <;> simp [-Int.ofNat_toNat] at h
  · have hr := hF.root (x := k) ⟨by omega, by omega⟩
    refine stp ?_; try with_reducible exact True.intro
    refine Br.mk (fun h2 => ?_) (fun h2 => ?_) <;> simp [-Int.ofNat_toNat] at h2
    · have h3 := hr.1 h2.symm
      rw [if_pos h3] at hs
      refine stp ?_; try with_reducible exact True.intro
      exact ⟨k + 1, ⟨.frz [], [0, 1], ⟨by rw [hs]; rfl, rfl, rfl, rfl, trivial⟩, ⟨rfl, rfl, trivial⟩, by decide, rfl, rfl, rfl⟩, by first | ((try dsimp only); omega) | (simp; omega), by first | ((try dsimp only); omega) | (simp; omega)⟩
    · have h3 : ¬ f k = k := fun c => h2 (hr.2 c).symm
      rw [if_neg h3] at hs
      refine stp ?_; try with_reducible exact True.intro
      exact ⟨k + 1, ⟨.frz [], [0, 1], ⟨by rw [hs]; rfl, rfl, rfl, rfl, trivial⟩, ⟨rfl, rfl, trivial⟩, by decide, rfl, rfl, rfl⟩, by first | ((try dsimp only); omega) | (simp; omega), by first | ((try dsimp only); omega) | (simp; omega)⟩
  · refine stp ?_; try with_reducible exact True.intro
    obtain rfl : k = up.length := by omega
    exact (fitK [] [0, 1])
end Go.Proofs.YtffiddkignmobaaDoorTv
end
section
namespace Go.Proofs
open Go.Shelf
def Tryd.lays156_ren : Go.Shelf.Ren := ⟨fun | 156 => 110 | 165 => 207 | 166 => 208 | 169 => 209 | 240 => 238 | 241 => 239 | 276 => 245 | 277 => 246 | n => n, fun | 31 => 52 | 9 => 9 | 3 => 3 | 4 => 4 | 0 => 0 | 20 => 20 | 72 => 124 | 76 => 128 | 70 => 122 | 37 => 77 | 75 => 127 | 127 => 140 | 164 => 142 | 5 => 5 | 80 => 130 | n => n, fun | n => n⟩
theorem Tryd.lays156 : Go.Proofs.Lays.n156 Tryd.prog Tryd.lays156_ren := {
  mixed := by kernel_rfl
  f156 := Tryd.func110.trans (congrArg some (by kernel_rfl))
  f165 := Tryd.func207.trans (congrArg some (by kernel_rfl))
  f166 := Tryd.func208.trans (congrArg some (by kernel_rfl))
  f169 := Tryd.func209.trans (congrArg some (by kernel_rfl))
  f240 := Tryd.func238.trans (congrArg some (by kernel_rfl))
  f241 := Tryd.func239.trans (congrArg some (by kernel_rfl))
  f276 := Tryd.func245.trans (congrArg some (by kernel_rfl))
  f277 := Tryd.func246.trans (congrArg some (by kernel_rfl))
  t0 := Tryd.underlying0
  a0 := Tryd.isAgg0
  z0 := Tryd.sizeOf0
  v0 := Tryd.zeroValue0
  t3 := Tryd.underlying3
  a3 := Tryd.isAgg3
  z3 := Tryd.sizeOf3
  v3 := Tryd.zeroValue3
  t4 := Tryd.underlying4
  a4 := Tryd.isAgg4
  z4 := Tryd.sizeOf4
  v4 := Tryd.zeroValue4
  t9 := Tryd.underlying9
  a9 := Tryd.isAgg9
  z9 := Tryd.sizeOf9
  v9 := Tryd.zeroValue9
  t20 := Tryd.underlying20
  a20 := Tryd.isAgg20
  z20 := Tryd.sizeOf20
  v20 := Tryd.zeroValue20
  t31 := Tryd.underlying52
  a31 := Tryd.isAgg52
  z31 := Tryd.sizeOf52
  v31 := Tryd.zeroValue52
  t37 := Tryd.underlying77
  a37 := Tryd.isAgg77
  z37 := Tryd.sizeOf77
  v37 := Tryd.zeroValue77
  t70 := Tryd.underlying122
  a70 := Tryd.isAgg122
  z70 := Tryd.sizeOf122
  v70 := Tryd.zeroValue122
  t72 := Tryd.underlying124
  a72 := Tryd.isAgg124
  z72 := Tryd.sizeOf124
  v72 := Tryd.zeroValue124
  t75 := Tryd.underlying127
  a75 := Tryd.isAgg127
  z75 := Tryd.sizeOf127
  v75 := Tryd.zeroValue127
  t76 := Tryd.underlying128
  a76 := Tryd.isAgg128
  z76 := Tryd.sizeOf128
  v76 := Tryd.zeroValue128
  t127 := Tryd.underlying140
  a127 := Tryd.isAgg140
  z127 := Tryd.sizeOf140
  v127 := Tryd.zeroValue140
  t164 := Tryd.underlying142
  a164 := Tryd.isAgg142
  z164 := Tryd.sizeOf142
  v164 := Tryd.zeroValue142 }
theorem Tryd.Builder_Extra_156 : Builder.Extra Tryd.prog Tryd.lays156_ren := {
  sizeBuilder := by kernel_rfl
  liesBuilder := by kernel_rfl
  t5 := Tryd.underlying5
  a5 := Tryd.isAgg5
  z5 := Tryd.sizeOf5
  v5 := Tryd.zeroValue5
  infoByte := by kernel_rfl
  cellsByte := by kernel_rfl
  sizeByte := by kernel_rfl
  neB5 := by decide }
open Go.RowKit in
/-- No element: the empty string; the world is as it was. (Whatever the slice's address and capacity: a nil slice too.) (LAID: no walk: one application.) -/
theorem Tryd.strings_Join_none (a : Option Addr) (c : Nat) (sep : ByteArray) (w : World) :
    Calls Tryd.prog 110 #[.slice a 0 c, .string sep] w fun e w' => e = .returned (.string ⟨#[]⟩) ∧ w' = w := Any.strings_Join_none Tryd.lays156 Tryd.Builder_Extra_156 a c sep w
open Go.RowKit in
/-- strings.Join: "Join concatenates the elements of its first argument to create a single string. The separator string sep is placed between elements in the resulting string.": HOWEVER MANY ELEMENTS. Below the heap's end the world is as it was. (LAID: no walk: one application.) -/
theorem Tryd.strings_Join (bk o c : Nat) (xs : List ByteArray) (sep : ByteArray) (w : World) (hcells : ∀ (j : Nat) x, xs[j]? = some x → w.cell? ⟨bk, o + j, none⟩ = some (.string x)) (hbk : bk < w.heap.size) (hN : xs.length ≤ 140737488355328) (hcap : xs.length ≤ c) (hlen : (Lib.join (xs.map (·.data.toList)) sep.data.toList).length ≤ 140737488355328) :
    Calls Tryd.prog 110 #[.slice (some ⟨bk, o, none⟩) xs.length c, .string sep] w fun e w' => e = .returned (.string ⟨(Lib.join (xs.map (·.data.toList)) sep.data.toList).toArray⟩) ∧ Below w.heap.size w w' := Any.strings_Join Tryd.lays156 Tryd.Builder_Extra_156 bk o c xs sep w hcells hbk hN hcap hlen
def Tryd.laysM171_ren : Go.Shelf.Ren := ⟨fun | 171 => 111 | 243 => 210 | 246 => 240 | 283 => 247 | 284 => 248 | 285 => 249 | 286 => 250 | 129 => 252 | 317 => 251 | 318 => 253 | 319 => 254 | 320 => 255 | 337 => 256 | 338 => 257 | n => n, fun | 3 => 3 | 9 => 9 | 2 => 2 | 4 => 4 | 171 => 145 | 0 => 0 | 53 => 146 | 37 => 77 | 5 => 5 | 173 => 149 | 212 => 151 | 51 => 152 | 20 => 20 | 213 => 153 | 46 => 114 | 232 => 156 | 233 => 157 | n => n, fun | 17 => 1 | 18 => 2 | 19 => 3 | n => n⟩
theorem Tryd.laysM171 : Go.Proofs.LaysM.n171 Tryd.prog Tryd.laysM171_ren := {
  mixed := by kernel_rfl
  f129 := Tryd.func252.trans (congrArg some (by kernel_rfl))
  f171 := Tryd.func111.trans (congrArg some (by kernel_rfl))
  f243 := Tryd.func210.trans (congrArg some (by kernel_rfl))
  f246 := Tryd.func240.trans (congrArg some (by kernel_rfl))
  f283 := Tryd.func247.trans (congrArg some (by kernel_rfl))
  f284 := Tryd.func248.trans (congrArg some (by kernel_rfl))
  f285 := Tryd.func249.trans (congrArg some (by kernel_rfl))
  f286 := Tryd.func250.trans (congrArg some (by kernel_rfl))
  f317 := Tryd.func251.trans (congrArg some (by kernel_rfl))
  f318 := Tryd.func253.trans (congrArg some (by kernel_rfl))
  f319 := Tryd.func254.trans (congrArg some (by kernel_rfl))
  f320 := Tryd.func255.trans (congrArg some (by kernel_rfl))
  f337 := Tryd.func256.trans (congrArg some (by kernel_rfl))
  f338 := Tryd.func257.trans (congrArg some (by kernel_rfl))
  t0 := Tryd.underlying0
  a0 := Tryd.isAgg0
  z0 := Tryd.sizeOf0
  v0 := Tryd.zeroValue0
  t2 := Tryd.underlying2
  a2 := Tryd.isAgg2
  z2 := Tryd.sizeOf2
  v2 := Tryd.zeroValue2
  t3 := Tryd.underlying3
  a3 := Tryd.isAgg3
  z3 := Tryd.sizeOf3
  v3 := Tryd.zeroValue3
  t4 := Tryd.underlying4
  a4 := Tryd.isAgg4
  z4 := Tryd.sizeOf4
  v4 := Tryd.zeroValue4
  t5 := Tryd.underlying5
  a5 := Tryd.isAgg5
  z5 := Tryd.sizeOf5
  v5 := Tryd.zeroValue5
  t9 := Tryd.underlying9
  a9 := Tryd.isAgg9
  z9 := Tryd.sizeOf9
  v9 := Tryd.zeroValue9
  t20 := Tryd.underlying20
  a20 := Tryd.isAgg20
  z20 := Tryd.sizeOf20
  v20 := Tryd.zeroValue20
  t37 := Tryd.underlying77
  a37 := Tryd.isAgg77
  z37 := Tryd.sizeOf77
  v37 := Tryd.zeroValue77
  t46 := Tryd.underlying114
  a46 := Tryd.isAgg114
  z46 := Tryd.sizeOf114
  v46 := Tryd.zeroValue114
  t51 := Tryd.underlying152
  a51 := Tryd.isAgg152
  z51 := Tryd.sizeOf152
  v51 := Tryd.zeroValue152
  t53 := Tryd.underlying146
  a53 := Tryd.isAgg146
  z53 := Tryd.sizeOf146
  v53 := Tryd.zeroValue146
  t171 := Tryd.underlying145
  a171 := Tryd.isAgg145
  z171 := Tryd.sizeOf145
  v171 := Tryd.zeroValue145
  t173 := Tryd.underlying149
  a173 := Tryd.isAgg149
  z173 := Tryd.sizeOf149
  v173 := Tryd.zeroValue149
  t212 := Tryd.underlying151
  a212 := Tryd.isAgg151
  z212 := Tryd.sizeOf151
  v212 := Tryd.zeroValue151
  t213 := Tryd.underlying153
  a213 := Tryd.isAgg153
  z213 := Tryd.sizeOf153
  t232 := Tryd.underlying156
  a232 := Tryd.isAgg156
  z232 := Tryd.sizeOf156
  v232 := Tryd.zeroValue156
  t233 := Tryd.underlying157
  a233 := Tryd.isAgg157
  z233 := Tryd.sizeOf157
  v233 := Tryd.zeroValue157
  g17 := by kernel_rfl
  g18 := by kernel_rfl
  g19 := by kernel_rfl
  i0 := by kernel_rfl
  i2 := by kernel_rfl
  i3 := by kernel_rfl
  i4 := by kernel_rfl
  i5 := by kernel_rfl
  i9 := by kernel_rfl
  i20 := by kernel_rfl
  i37 := by kernel_rfl
  i46 := by kernel_rfl
  i51 := by kernel_rfl
  i53 := by kernel_rfl
  i171 := by kernel_rfl
  i173 := by kernel_rfl
  i212 := by kernel_rfl
  i232 := by kernel_rfl
  i233 := by kernel_rfl
  m17 := by kernel_rfl
  m18 := by kernel_rfl
  m19 := by kernel_rfl }
open Go.RowKit Go.Sort Go.Lib in
/-- strconv.Itoa: "Itoa is equivalent to FormatInt(int64(i), 10).": i's DECIMAL NUMERAL ('Lib.itoa': a '-' where i is negative, then the digits), FOR EVERY int. The world behind the call: the world before it, new blocks behind the heap (the library's 'var a [24]byte'), draws. (LAID: no walk: one application.) -/
theorem Tryd.strconv_Itoa (n : Int) (h0 : -9223372036854775808 ≤ n) (h1 : n ≤ 9223372036854775807) (w : World) (htab : Lib.TabIs Tryd.prog w "internal/strconv.uint64pow10" .u64 Lib.pow10Tab) :
    Calls Tryd.prog 111 #[.int .i64 n] w fun e w' => e = .returned (.string ⟨(Lib.itoa n).toArray⟩) ∧ ∃ k os, w' = grow (w.drewN k) os := Any.strconv_Itoa Tryd.laysM171 n h0 h1 w htab
end Go.Proofs

open Go Go.Proofs.YtffiddkignmobaaDoorVe Go.Proofs.YtffiddkignmobaaDoorTv Go.Proofs
namespace Go.Proofs.YtffiddkignmobaaDoorTv
set_option maxRecDepth 8000
set_option maxHeartbeats 2000000
theorem tab_g : Tryd.prog.globalNamed "internal/strconv.uint64pow10" = some 1 := by kernel_rfl
theorem tab_is {w : World} (h : sideT w) : Lib.TabIs Tryd.prog w "internal/strconv.uint64pow10" .u64 Lib.pow10Tab := by
  unfold Lib.TabIs World.var?
  rw [tab_g]
  simp only [Option.bind_some]
  unfold sideT at h
  cases hh : w.heap[(1 : Nat)]? with
  | none => rw [hh] at h; exact h
  | some o => rw [hh] at h; cases o <;> exact h
def ito (n : Int) : ByteArray := ⟨(Lib.itoa n).toArray⟩
def joi (l : List ByteArray) (sep : ByteArray) : ByteArray := ⟨(Lib.join (l.map fun x => x.data.toList) sep.data.toList).toArray⟩
theorem Itoa (n : Int) (h0 : -9223372036854775808 ≤ n) (h1 : n ≤ 9223372036854775807) : ConS Tryd.prog 111 [.i n] (.s (ito n)) := by
  refine ⟨rfl, enters_of Tryd.func111 rfl rfl, fun m s avs _ _ _ hv => ?_⟩
  cases hv with
  | cons _ a _ ar ha hr =>
    cases hr
    obtain rfl := ha.int_inv
    refine callV_of_lib (enters_of Tryd.func111 rfl rfl) fun x vals hR hH hv => ?_
    cases hv with
    | cons _ _ v vs k1 k2 =>
      cases k2
      cases k1
      refine ⟨_, fun y => .str (ito n), ?_⟩
      refine (Tryd.strconv_Itoa n h0 h1 x.w (tab_is hR.side)).mono fun e w' ⟨he, k, os, hw⟩ => ⟨he, ?_⟩
      subst hw
      exact ⟨rfl, rfl, rfl, by simp [Sort.grow], fun i hi => by simp [Sort.grow, Array.getElem?_append, hi]⟩
theorem strs_sh {G : Nat → Nat → Prop} {H : Heap} : ∀ {l : List ByteArray} {ch : List (List AV)}, All2 (fun x c => Sh G H .str x c) l ch → ch.flatten = l.map AV.str
  | [], [], _ => rfl
  | x :: l, c :: ch, h => by
    have h1 : c = [.str x] := h.1
    subst h1
    simp [strs_sh h.2]
  | [], _ :: _, h => h.elim
  | _ :: _, [], h => h.elim
theorem vrl_strs {x : Cx} : ∀ {l : List ByteArray} {vs : List Value}, VRL x (l.map AV.str) vs → vs = l.map Value.string
  | [], _, h => by cases h; rfl
  | y :: l, _, h => by
    cases h with
    | cons _ _ v vs h1 h2 => cases h1; rw [vrl_strs h2]; rfl
theorem JoinL (l : List ByteArray) (sep : ByteArray) (hl : (joi l sep).size ≤ 140737488355328) : ConS Tryd.prog 110 [.val (.list .str) l, .s sep] (.s (joi l sep)) := by
  refine ⟨rfl, enters_of Tryd.func110 rfl rfl, fun m s avs _ _ _ hv => ?_⟩
  cases hv with
  | cons _ a _ ar ha hr =>
    cases hr with
    | cons _ b _ bs hb hr =>
      cases hr
      obtain rfl := hb.str_inv
      cases ha with
      | val _ _ _ hsh =>
        obtain ⟨a', ch, ea, hsl, hlen, hrow, hG, hmost, hall⟩ := hsh
        injection ea with ea _
        subst ea
        refine callV_of_lib (enters_of Tryd.func110 rfl rfl) fun x vals hR hH hv => ?_
        cases hv with
        | cons _ _ v vs k1 k2 =>
          cases k2 with
          | cons _ _ v2 vs2 k3 k4 =>
            cases k4
            cases k3
            have hc := strs_sh hall
            rw [hc] at hrow
            obtain ⟨A, cap, rfl, hcap, hcells⟩ := row_cells hR (xs := l.map AV.str) (by rw [hH]; exact hrow) hlen (by simp) (fun b hb => by rw [hb] at hsl; simp [isSl] at hsl) k1
            refine ⟨_, fun y => .str (joi l sep), ?_⟩
            by_cases hz : l = []
            · subst hz
              refine (Tryd.strings_Join_none A cap sep x.w).mono fun e w' ⟨he, hw⟩ => ⟨he, ?_⟩
              subst hw
              exact Go.RowKit.Below.refl _ _
            · obtain ⟨b, o, vs, rfl, hbs, hvl, hcell⟩ := hcells (fun h => hz (List.length_eq_zero_iff.1 h))
              obtain rfl := vrl_strs hvl
              refine (Tryd.strings_Join b o cap l sep x.w (fun j y hy => hcell j _ (by rw [List.getElem?_map, hy]; rfl)) hbs (by simp only [huge] at hmost; omega) hcap (by simpa [joi, ByteArray.size] using hl)).mono fun e w' ⟨he, hw⟩ => ⟨he, hw⟩
end Go.Proofs.YtffiddkignmobaaDoorTv
end
section
open Go Go.Proofs.YtffiddkignmobaaDoorVe Go.Proofs.YtffiddkignmobaaDoorTv Go.Proofs
namespace Go.Proofs.YtffiddkignmobaaDoorTv
set_option maxRecDepth 8000
set_option maxHeartbeats 2000000
theorem FormatIntI (n : Int) (h0 : -9223372036854775808 ≤ n) (h1 : n ≤ 9223372036854775807) : ConS Tryd.prog 38 [.i n] (.s (ito n)) := by
  refine conS_of hmix hTab Tryd.func38 rfl rfl (by kernel_rfl) (by show 1 ≤ Tryd.f38.ntmps; decide) rfl ?_
  refine stp ?_; try with_reducible exact True.intro
  refine useT ((Itoa n h0 h1).toT) ?_; try with_reducible exact True.intro
theorem JoinI (l : List ByteArray) (sep : ByteArray) (hl : (joi l sep).size ≤ 140737488355328) : ConS Tryd.prog 37 [.val (.list .str) l, .s sep] (.s (joi l sep)) := by
  refine conS_of hmix hTab Tryd.func37 rfl rfl (by kernel_rfl) (by show 2 ≤ Tryd.f37.ntmps; decide) rfl ?_
  refine stp ?_; try with_reducible exact True.intro
  refine useT ((JoinL l sep hl).toT) ?_; try with_reducible exact True.intro
def dd (u : Nat) : List UInt8 := if u = 0 then [] else Lib.decDigits u
theorem dd_step {u : Nat} (h : u ≠ 0) : dd u = dd (u / 10) ++ [UInt8.ofNat (48 + u % 10)] := by
  unfold dd
  rw [if_neg h, Lib.decDigits]
  by_cases hu : u < 10
  · rw [dif_pos hu, if_pos (by omega), Nat.mod_eq_of_lt hu]; rfl
  · rw [dif_neg hu, if_neg (by omega)]
theorem ito_size (n : Int) (h0 : -9223372036854775808 ≤ n) (h1 : n ≤ 9223372036854775807) : (ito n).size ≤ 21 := by
  have := Lib.itoa_length_le n h0 h1
  simpa [ito, ByteArray.size] using this
theorem ito_zero : ito 0 = ⟨#[48]⟩ := by
  have : Lib.itoa 0 = [48] := by
    unfold Lib.itoa
    rw [if_neg (by omega)]
    show Lib.decDigits 0 = _
    rw [Lib.decDigits, dif_pos (by omega)]; rfl
  unfold ito
  rw [this]
theorem ito_dd {n : Int} (hz : n ≠ 0) : (if n < 0 then [45] else []) ++ dd n.natAbs = Lib.itoa n := by
  simp only [Lib.itoa, dd, if_neg (show ¬ n.natAbs = 0 by omega)]
  split
  · rfl
  · rw [show n.toNat = n.natAbs by omega]; rfl
theorem u8w {e : Int} (h0 : 0 ≤ e) (h1 : e ≤ 9) : IntKind.u8.wrap (48 + e) = 48 + e := by
  simp [IntKind.wrap, IntKind.signed, IntKind.bits]; omega
theorem ba_data (a b : ByteArray) : (a ++ b).data.toList = a.data.toList ++ b.data.toList := by
  rw [ByteArray.data_append]; simp
theorem ba_ext {a : ByteArray} {l : List UInt8} (h : a.data.toList = l) : a = ⟨l.toArray⟩ := by
  subst h; cases a; rfl
theorem dd_put {u : Nat} (hu : u ≠ 0) (o : ByteArray) {w : Int} (hw : w = 48 + ((u % 10 : Nat) : Int)) : dd (u / 10) ++ (strOfNums [w] ++ o).data.toList = dd u ++ o.data.toList := by
  rw [ba_data, dd_step hu]
  subst hw
  have e : ((48 : Int) + ((u % 10 : Nat) : Int)).toNat = 48 + u % 10 := by omega
  show _ ++ ([UInt8.ofNat ((48 : Int) + ((u % 10 : Nat) : Int)).toNat] ++ _) = _
  rw [e, List.append_assoc]
theorem FormatIntS (n : Int) (h0 : -9223372036854775808 ≤ n) (h1 : n ≤ 9223372036854775807) : ConS Tryd.prog 30 [.i n] (.s (ito n)) := by
  have hsz := ito_size n h0 h1
  refine conS_of hmix hTab Tryd.func30 rfl rfl (by kernel_rfl) (by show 1 ≤ Tryd.f30.ntmps; decide) rfl ?_
  refine stp ?_; try with_reducible exact True.intro
  refine Br.mk (fun hz => ?_) (fun hz => ?_) <;> simp [-Int.ofNat_toNat] at hz
  · subst hz
    refine stp ?_; try with_reducible exact True.intro
    rw [ito_zero]
  have hd := ito_dd hz
  refine stp ?_; try with_reducible exact True.intro
  refine ⟨Int × ByteArray, fun p => dd p.1.natAbs ++ p.2.data.toList = dd n.natAbs ∧ -9223372036854775808 ≤ p.1 ∧ p.1 ≤ 9223372036854775807, fun p => p.1.natAbs, fun p => [(0, .i p.1), (3, .b (decide (n < 0))), (4, .s p.2)], fun p => [], ⟨(n, ByteArray.empty), (fitK [] []), by show dd n.natAbs ++ [] = _; simp, h0, h1⟩, fun ⟨q, o⟩ ⟨hi, hq0, hq1⟩ => ?_⟩
  dsimp only at hi hq0 hq1 ⊢
  have hol : o.size ≤ 21 := by
    have h2 := congrArg List.length (show (if n < 0 then [45] else []) ++ (dd q.natAbs ++ o.data.toList) = Lib.itoa n by rw [hi]; exact hd)
    simp only [List.length_append, Array.length_toList] at h2
    have h3 := Lib.itoa_length_le n h0 h1
    show o.data.size ≤ 21
    omega
  have dn : (q.tmod 10).natAbs = q.natAbs % 10 := Int.natAbs_tmod q 10
  have dq : (q.tdiv 10).natAbs = q.natAbs / 10 := Int.natAbs_tdiv q 10
  obtain ⟨d, hdd⟩ : ∃ d, q.tmod 10 = d := ⟨_, rfl⟩
  obtain ⟨q2, hqq⟩ : ∃ q2, q.tdiv 10 = q2 := ⟨_, rfl⟩
  have hm0 : -9 ≤ q.tmod 10 := by rw [hdd] at dn ⊢; omega
  have hm1 : q.tmod 10 ≤ 9 := by rw [hdd] at dn ⊢; omega
  refine stp ?_; try with_reducible exact True.intro
  refine Br.mk (fun h2 => ?_) (fun h2 => ?_) <;> simp [-Int.ofNat_toNat] at h2
  · refine stp ?_; try with_reducible exact True.intro
    refine Br.mk (fun h3 => ?_) (fun h3 => ?_) <;> simp [-Int.ofNat_toNat] at h3
    · refine stp ?_; try with_reducible exact True.intro
      have hw : IntKind.u8.wrap (48 + (0 - q.tmod 10)) = 48 + (0 - q.tmod 10) := u8w (by omega) (by omega)
      refine ⟨(show (1 : Nat) + o.size ≤ 140737488355328 by omega), ?_⟩
      refine stp ?_; try with_reducible exact True.intro
      refine ⟨(q.tdiv 10, strOfNums [IntKind.u8.wrap (48 + (0 - q.tmod 10))] ++ o), (fitK [] []), ⟨?_, ?_, ?_⟩, ?_⟩
      · rw [hw]; dsimp only; rw [dq, dd_put (by omega) o (by omega)]; exact hi
      · dsimp only; rw [hqq] at dq ⊢; omega
      · dsimp only; rw [hqq] at dq ⊢; omega
      · dsimp only; rw [dq]; omega
    · refine stp ?_; try with_reducible exact True.intro
      have hw : IntKind.u8.wrap (48 + q.tmod 10) = 48 + q.tmod 10 := u8w (by omega) (by omega)
      refine ⟨(show (1 : Nat) + o.size ≤ 140737488355328 by omega), ?_⟩
      refine stp ?_; try with_reducible exact True.intro
      refine ⟨(q.tdiv 10, strOfNums [IntKind.u8.wrap (48 + q.tmod 10)] ++ o), (fitK [] []), ⟨?_, ?_, ?_⟩, ?_⟩
      · rw [hw]; dsimp only; rw [dq, dd_put (by omega) o (by omega)]; exact hi
      · dsimp only; rw [hqq] at dq ⊢; omega
      · dsimp only; rw [hqq] at dq ⊢; omega
      · dsimp only; rw [dq]; omega
  · have hq : q = 0 := by omega
    subst hq
    have ho : (if n < 0 then [45] else []) ++ o.data.toList = Lib.itoa n := by
      rw [← hd, ← hi]; rfl
    refine stp ?_; try with_reducible exact True.intro
    refine Br.mk (fun h3 => ?_) (fun h3 => ?_) <;> simp [-Int.ofNat_toNat] at h3
    · rw [if_pos h3] at ho
      refine stp ?_; try with_reducible exact True.intro
      refine ⟨(show (1 : Nat) + o.size ≤ 140737488355328 by omega), ?_⟩
      refine stp ?_; try with_reducible exact True.intro
      refine congrArg (fun x => V.s x) (ba_ext ?_)
      rw [ba_data]; exact ho
    · rw [if_neg (by omega)] at ho
      refine stp ?_; try with_reducible exact True.intro
      exact congrArg (fun x => V.s x) (ba_ext ho)
def jb (l : List ByteArray) (sep : ByteArray) : Nat → List Int
  | 0 => []
  | i + 1 => jb l sep i ++ (if 0 < i then bys sep else []) ++ bys (l.getD i ByteArray.empty)
theorem jb_len (l : List ByteArray) (sep : ByteArray) : ∀ i j, (jb l sep i).length ≤ (jb l sep (i + j)).length
  | i, 0 => Nat.le_refl _
  | i, j + 1 => by
    have := jb_len l sep i j
    rw [← Nat.add_assoc, jb]
    simp only [List.length_append]
    omega
theorem num_bys (s : ByteArray) : (bys s).map (fun n => UInt8.ofNat n.toNat) = s.data.toList := by
  simp only [bys, List.map_map]
  conv => rhs; rw [← List.map_id s.data.toList]
  apply List.map_congr_left
  intro a _
  simp
theorem jb_join (l : List ByteArray) (sep : ByteArray) : ∀ i, i ≤ l.length → (jb l sep i).map (fun n => UInt8.ofNat n.toNat) = Lib.join ((l.take i).map fun x => x.data.toList) sep.data.toList
  | 0, _ => rfl
  | i + 1, h => by
    have hi := jb_join l sep i (by omega)
    have hl : l[i]? = some (l.getD i ByteArray.empty) := by simp [List.getD, List.getElem?_eq_getElem (show i < l.length by omega)]
    rw [jb, List.map_append, List.map_append, hi, num_bys, List.take_add_one, hl]
    generalize l.getD i ByteArray.empty = y at *
    simp only [Option.toList, List.map_append, List.map_cons, List.map_nil]
    cases i with
    | zero => simp [Lib.join, List.intercalate]
    | succ i =>
      rw [if_pos (by omega), num_bys]
      have hne : (l.take (i + 1)).map (fun x => x.data.toList) ≠ [] := by
        intro h2
        have := congrArg List.length h2
        simp only [List.length_map, List.length_take, List.length_nil] at this
        omega
      generalize (l.take (i + 1)).map (fun x => x.data.toList) = m at *
      cases m with
      | nil => exact absurd rfl hne
      | cons a m => rw [List.cons_append, Lib.join_cons, Lib.join_cons]; simp [Lib.joinTail]
theorem jb_joi (l : List ByteArray) (sep : ByteArray) : strOfNums (jb l sep l.length) = joi l sep := by
  unfold strOfNums joi
  rw [jb_join l sep _ (Nat.le_refl _), List.take_length]
theorem jb_size (l : List ByteArray) (sep : ByteArray) : (jb l sep l.length).length = (joi l sep).size := by
  rw [← jb_joi]; simp [strOfNums, ByteArray.size]
theorem bys_len (s : ByteArray) : (bys s).length = s.size := by simp only [bys, List.length_map, Array.length_toList]; rfl
theorem joi_le (l : List ByteArray) (sep : ByteArray) {b : Nat} (h : ∀ x ∈ l, x.size ≤ b) : (joi l sep).size ≤ l.length * (b + sep.size) := by
  rw [← jb_size]
  have key : ∀ i, i ≤ l.length → (jb l sep i).length ≤ i * (b + sep.size) := by
    intro i
    induction i with
    | zero => intro _; simp [jb]
    | succ i ih =>
      intro hi
      have h1 := ih (by omega)
      have h2 : (l.getD i ByteArray.empty).size ≤ b := by
        simp only [List.getD, List.getElem?_eq_getElem (show i < l.length by omega), Option.getD_some]
        exact h _ (List.getElem_mem _)
      have e1 : (bys (l.getD i ByteArray.empty)).length = (l.getD i ByteArray.empty).size := bys_len _
      have e2 : (bys sep).length = sep.size := bys_len _
      rw [jb, Nat.add_mul]
      simp only [List.length_append]
      split <;> simp only [e2, List.length_nil] <;> omega
  exact key _ (Nat.le_refl _)
theorem JoinS (l : List ByteArray) (sep : ByteArray) (hl : (joi l sep).size ≤ 268435456) (hn : (l.length : Int) ≤ 1048576) : ConS Tryd.prog 73 [.val (.list .str) l, .s sep] (.s (joi l sep)) := by
  have hj : ∀ i, i ≤ l.length → (jb l sep i).length ≤ 268435456 := fun i hi => by
    have := jb_len l sep i (l.length - i)
    rw [show i + (l.length - i) = l.length by omega, jb_size] at this
    omega
  refine conS_of hmix hTab Tryd.func73 rfl rfl (by kernel_rfl) (by show 2 ≤ Tryd.f73.ntmps; decide) rfl ?_
  refine stp ?_; try with_reducible exact True.intro
  refine ⟨Nat, fun i => i ≤ l.length, fun i => l.length - i, fun i => [(0, .val (.list .str) l), (1, .s sep), (5, .own 0 0 (jb l sep i).length), (6, .i i)], fun i => [.arr (.int .u8) (jb l sep i) true], ⟨0, (fitK [] [0]), Nat.zero_le _⟩, fun i hi => ?_⟩
  dsimp only at hi ⊢
  have hx : i < l.length → (jb l sep i).length + (if 0 < i then bys sep else []).length + (bys (rdT .str l (i : Int))).length ≤ 268435456 := fun h => by
    have := hj (i + 1) h
    rw [jb, List.length_append, List.length_append] at this
    exact this
  refine stp ?_; try with_reducible exact True.intro
  refine Br.mk (fun h1 => ?_) (fun h1 => ?_) <;> simp [-Int.ofNat_toNat] at h1
  · have hx := hx (by omega)
    refine stp ?_; try with_reducible exact True.intro
    refine Br.mk (fun h2 => ?_) (fun h2 => ?_) <;> simp [-Int.ofNat_toNat] at h2
    · rw [if_pos (by omega)] at hx
      refine stp ?_; try with_reducible exact True.intro
      have hu : jb l sep (i + 1) = jb l sep i ++ bys sep ++ bys (rdT .str l (i : Int)) := by
        rw [jb, if_pos (by omega)]; rfl
      refine ⟨i + 1, ⟨.frz [], [2], ⟨rfl, rfl, ?_, rfl, trivial⟩, ⟨?_, trivial⟩, by decide, rfl, rfl, rfl⟩, by first | ((try dsimp only); omega) | (simp; omega), by first | ((try dsimp only); omega) | (simp; omega)⟩ <;> rw [hu]
      · show V.own 2 0 _ = V.own 2 0 _
        congr 1
        simp; omega
      · refine congrArg (fun x => some (Obj.arr (.int .u8) x true)) ?_
        simp only [List.drop_zero, List.take_length]
        rw [List.take_of_length_le (by simp)]
    · rw [if_neg (by omega)] at hx
      have hu : jb l sep (i + 1) = jb l sep i ++ bys (rdT .str l (i : Int)) := by
        rw [jb, if_neg (by omega), List.append_nil]; rfl
      refine stp ?_; try with_reducible exact True.intro
      refine ⟨i + 1, ⟨.frz [], [1], ⟨rfl, rfl, ?_, rfl, trivial⟩, ⟨?_, trivial⟩, by decide, rfl, rfl, rfl⟩, by first | ((try dsimp only); omega) | (simp; omega), by first | ((try dsimp only); omega) | (simp; omega)⟩ <;> rw [hu]
      · show V.own 1 0 _ = V.own 1 0 _
        congr 1
        simp
      · refine congrArg (fun x => some (Obj.arr (.int .u8) x true)) ?_
        simp
  · obtain rfl : i = l.length := by omega
    refine stp ?_; try with_reducible exact True.intro
    rw [List.drop_zero, List.take_length, jb_joi]
def nt (l : List Int) : ByteArray := if l = [] then ⟨#[45]⟩ else joi (l.map ito) ⟨#[44]⟩
def In64 (l : List Int) : Prop := ∀ x ∈ l, -9223372036854775808 ≤ x ∧ x ≤ 9223372036854775807
theorem In64_of {l : List Int} (h : wfT (.list (.int .i64)) l) : In64 l := fun x hx => by
  have h1 : (Lit.int .i64 x).wf = true := h x hx
  simpa [Lit.wf, IntKind.min, IntKind.max, IntKind.signed, IntKind.bits] using h1
theorem In64_rd {l : List Int} (h : In64 l) (i : Int) : -9223372036854775808 ≤ rd l i ∧ rd l i ≤ 9223372036854775807 := by
  simp only [rd, List.getD]
  cases hx : l[i.toNat]? with
  | none => simp
  | some y => exact h y (List.mem_of_getElem? hx)
theorem nt_size {l : List Int} (h : In64 l) : (joi (l.map ito) ⟨#[44]⟩).size ≤ l.length * 22 := by
  have := joi_le (l.map ito) ⟨#[44]⟩ (b := 21) (fun x hx => by
    obtain ⟨y, hy, rfl⟩ := List.mem_map.1 hx
    exact ito_size y (h y hy).1 (h y hy).2)
  rw [List.length_map] at this
  exact this
theorem take_map_succ (l : List Int) {i : Nat} (h : i < l.length) : (l.map ito).take (i + 1) = (l.map ito).take i ++ [ito (rd l i)] := by
  rw [List.take_add_one, List.getElem?_map, List.getElem?_eq_getElem h]
  simp [rd, List.getD, List.getElem?_eq_getElem h]
theorem take_ito (l : List Int) : (l.map ito).take l.length = l.map ito := List.take_of_length_le (by simp)
theorem NumbersTextS (l : List Int) (hn : (l.length : Int) ≤ 1048576) (h : In64 l) : ConS Tryd.prog 58 [.il l] (.s (nt l)) := by
  have hsz := nt_size h
  refine conS_of hmix hTab Tryd.func58 rfl rfl (by kernel_rfl) (by show 1 ≤ Tryd.f58.ntmps; decide) rfl ?_
  refine stp ?_; try with_reducible exact True.intro
  refine Br.mk (fun hz => ?_) (fun hz => ?_) <;> simp [-Int.ofNat_toNat] at hz
  · refine stp ?_; try with_reducible exact True.intro
    rw [nt, if_pos hz]
  refine stp ?_; try with_reducible exact True.intro
  refine ⟨Nat, fun i => i ≤ l.length, fun i => l.length - i, fun i => [(0, .il l), (3, .own 0 0 i), (4, .i i)], fun i => [.arr .str ((l.map ito).take i) true], ⟨0, (fitK [] [0]), Nat.zero_le _⟩, fun i hi => ?_⟩
  dsimp only at hi ⊢
  have hr := In64_rd h i
  refine stp ?_; try with_reducible exact True.intro
  refine Br.mk (fun h1 => ?_) (fun h1 => ?_) <;> simp [-Int.ofNat_toNat] at h1
  · refine stp ?_; try with_reducible exact True.intro
    refine useT ((FormatIntS _ hr.1 hr.2).toT) ?_; try with_reducible exact True.intro
    refine ⟨i + 1, ⟨.frz [], [2], ⟨rfl, rfl, rfl, trivial⟩, ⟨?_, trivial⟩, by decide, rfl, rfl, rfl⟩, by first | ((try dsimp only); omega) | (simp; omega), by first | ((try dsimp only); omega) | (simp; omega)⟩
    rw [take_map_succ l (by omega)]
    refine congrArg (fun x => some (Obj.arr .str x true)) ?_
    simp [rd, List.take_take]
  · obtain rfl : i = l.length := by omega
    rw [take_ito]
    refine stp ?_; try with_reducible exact True.intro
    refine useT ((JoinS (l.map ito) ⟨#[44]⟩ (by omega) (by rw [List.length_map]; exact hn)).toT) ?_; try with_reducible exact True.intro
    rw [nt, if_neg hz]
theorem NumbersTextI (l : List Int) (hn : (l.length : Int) ≤ 1048576) (h : In64 l) : ConS Tryd.prog 66 [.il l] (.s (nt l)) := by
  have hsz := nt_size h
  refine conS_of hmix hTab Tryd.func66 rfl rfl (by kernel_rfl) (by show 1 ≤ Tryd.f66.ntmps; decide) rfl ?_
  refine stp ?_; try with_reducible exact True.intro
  refine Br.mk (fun hz => ?_) (fun hz => ?_) <;> simp [-Int.ofNat_toNat] at hz
  · refine stp ?_; try with_reducible exact True.intro
    rw [nt, if_pos hz]
  refine stp ?_; try with_reducible exact True.intro
  refine ⟨Nat, fun i => i ≤ l.length, fun i => l.length - i, fun i => [(3, .own 0 0 i), (10, .il l), (11, .i l.length), (12, .i i)], fun i => [.arr .str ((l.map ito).take i) true], ⟨0, (fitK [] [0]), Nat.zero_le _⟩, fun i hi => ?_⟩
  dsimp only at hi ⊢
  have hr := In64_rd h i
  refine stp ?_; try with_reducible exact True.intro
  refine Br.mk (fun h1 => ?_) (fun h1 => ?_) <;> simp [-Int.ofNat_toNat] at h1
  · refine stp ?_; try with_reducible exact True.intro
    refine useT ((FormatIntI _ hr.1 hr.2).toT) ?_; try with_reducible exact True.intro
    refine ⟨i + 1, ⟨.frz [], [2], ⟨rfl, rfl, rfl, rfl, trivial⟩, ⟨?_, trivial⟩, by decide, rfl, rfl, rfl⟩, by first | ((try dsimp only); omega) | (simp; omega), by first | ((try dsimp only); omega) | (simp; omega)⟩
    rw [take_map_succ l (by omega)]
    refine congrArg (fun x => some (Obj.arr .str x true)) ?_
    simp [rd, List.take_take]
  · obtain rfl : i = l.length := by omega
    rw [take_ito]
    refine stp ?_; try with_reducible exact True.intro
    refine useT ((JoinI (l.map ito) ⟨#[44]⟩ (by omega)).toT) ?_; try with_reducible exact True.intro
    rw [nt, if_neg hz]
end Go.Proofs.YtffiddkignmobaaDoorTv
end
section
open Go Go.Proofs.YtffiddkignmobaaDoorVe Go.Proofs.YtffiddkignmobaaDoorTv Go.Proofs
namespace Go.Proofs.YtffiddkignmobaaDoorTv
set_option maxRecDepth 8000
set_option maxHeartbeats 2000000
theorem szA (a : Array UInt8) : (ByteArray.mk a).size = a.size := rfl
theorem ito_s (n : Int) (h : -1000000 ≤ n ∧ n ≤ 1000000) : (ito n).size ≤ 21 := ito_size n (by omega) (by omega)
theorem joi_one (a s : ByteArray) : joi [a] s = a := by
  unfold joi
  apply ByteArray.ext
  simp [Lib.join]
theorem joi_cons (a b : ByteArray) (l : List ByteArray) (s : ByteArray) : joi (a :: b :: l) s = a ++ s ++ joi (b :: l) s := by
  unfold joi
  apply ByteArray.ext
  simp only [ByteArray.data_append, List.map_cons, Lib.join_cons]
  apply Array.toList_inj.1
  simp [Lib.joinTail]
end Go.Proofs.YtffiddkignmobaaDoorTv
end
section
open Go Go.Proofs.YtffiddkignmobaaDoorVe Go.Proofs.YtffiddkignmobaaDoorTv Go.Proofs
namespace Go.Proofs.YtffiddkignmobaaDoorTv
set_option maxRecDepth 8000
set_option maxHeartbeats 2000000
/-- The classes of darts. -/
def jm (m : List Int) : Nat → Int → Int
  | 0 => id
  | i + 1 => joinF (joinF (jm m i) i (rd m i)) i (mate i)
def parM (m : List Int) : Nat := (rootsOf m.length (jm m m.length)).length
theorem jm_fo {m : List Int} (he : m.length % 2 = 0) (hin : InR' m) : ∀ i, i ≤ m.length → ∃ up, Fo m.length up (jm m i)
  | 0, _ => ⟨_, Fo.init _⟩
  | i + 1, hi => by
    obtain ⟨up, h⟩ := jm_fo he hin i (by omega)
    have h1 := h.join (a := (i : Int)) (b := rd m i) ⟨by omega, by omega⟩ (hin i (by omega))
    exact ⟨_, h1.join (a := (i : Int)) (b := mate i) ⟨by omega, by omega⟩ (mate_in he (by omega))⟩
theorem CyclesOfI {m : List Int} (hm : isMap m = true) : ConT Tryd.prog 49 [.il m] (.own 0 0 (cyc m).length) [.arr (.list (.int .i64)) (cyc m) true] := by
  obtain ⟨h1, h2, h3, h4⟩ := isMap_facts hm
  have hi := IsMapI m (by omega)
  rw [hm] at hi
  refine conT_of hmix hTab Tryd.func49 rfl rfl (by kernel_rfl) (by show 1 ≤ Tryd.f49.ntmps; decide) ?_
  refine stp ?_; try with_reducible exact True.intro
  refine useT (hi.toT) ?_; try with_reducible exact True.intro
  refine useT ((cycles m h1 h4)) ?_; try with_reducible exact True.intro
  exact (fitK [] [0])
theorem CyclesOfS {m : List Int} (hm : isMap m = true) : ConT Tryd.prog 43 [.il m] (.own 0 0 (cyc m).length) [.arr (.list (.int .i64)) (cyc m) true] := by
  obtain ⟨h1, h2, h3, h4⟩ := isMap_facts hm
  have hi := IsMapS m (by omega)
  rw [hm] at hi
  refine conT_of hmix hTab Tryd.func43 rfl rfl (by kernel_rfl) (by show 1 ≤ Tryd.f43.ntmps; decide) ?_
  refine stp ?_; try with_reducible exact True.intro
  refine useT (hi.toT) ?_; try with_reducible exact True.intro
  refine useT ((l6Cycles m h1 h4)) ?_; try with_reducible exact True.intro
  exact (fitK [] [0])
theorem FacesOfI {m : List Int} (hm : isMap m = true) : ConT Tryd.prog 50 [.il m] (.own 0 0 (cyc (dualF m)).length) [.arr (.list (.int .i64)) (cyc (dualF m)) true] := by
  obtain ⟨h1, h2, h3, h4⟩ := isMap_facts hm
  have hi := IsMapI m (by omega)
  have hl := dualF_length m
  have hd := dual m h1 h3
  rw [← hl] at hd
  rw [hm] at hi
  refine conT_of hmix hTab Tryd.func50 rfl rfl (by kernel_rfl) (by show 1 ≤ Tryd.f50.ntmps; decide) ?_
  refine stp ?_; try with_reducible exact True.intro
  refine useT (hi.toT) ?_; try with_reducible exact True.intro
  refine useT (hd) ?_; try with_reducible exact True.intro
  refine useT ((cycles (dualF m) (by omega) (dualF_in h4 h3))) ?_; try with_reducible exact True.intro
  exact (fitK [] [1])
theorem FacesOfS {m : List Int} (hm : isMap m = true) : ConT Tryd.prog 44 [.il m] (.own 0 0 (cyc (dualF m)).length) [.arr (.list (.int .i64)) (cyc (dualF m)) true] := by
  obtain ⟨h1, h2, h3, h4⟩ := isMap_facts hm
  have hi := IsMapS m (by omega)
  have hl := dualF_length m
  have hd := l6Dual m h1 h3
  rw [← hl] at hd
  rw [hm] at hi
  refine conT_of hmix hTab Tryd.func44 rfl rfl (by kernel_rfl) (by show 1 ≤ Tryd.f44.ntmps; decide) ?_
  refine stp ?_; try with_reducible exact True.intro
  refine useT (hi.toT) ?_; try with_reducible exact True.intro
  refine useT (hd) ?_; try with_reducible exact True.intro
  refine useT ((l6Cycles (dualF m) (by omega) (dualF_in h4 h3))) ?_; try with_reducible exact True.intro
  exact (fitK [] [1])
theorem MapPartsI {m : List Int} (hm : isMap m = true) : ConS Tryd.prog 51 [.il m] (.i (parM m)) := by
  obtain ⟨h1, h2, h3, h4⟩ := isMap_facts hm
  have hi := IsMapI m (by omega)
  rw [hm] at hi
  refine conS_of hmix hTab Tryd.func51 rfl rfl (by kernel_rfl) (by show 1 ≤ Tryd.f51.ntmps; decide) rfl ?_
  refine stp ?_; try with_reducible exact True.intro
  refine useT (hi.toT) ?_; try with_reducible exact True.intro
  refine useT ((newJoiner m.length (by omega))) ?_; try with_reducible exact True.intro
  refine ⟨Nat × List Int, fun a => a.1 ≤ m.length ∧ ∃ f, Fo m.length a.2 f ∧ Ker m.length f (jm m a.1), fun a => m.length - a.1, fun a => [(3, .pcell 0 0), (12, .il m), (13, .i m.length), (14, .i a.1)], fun a => sJ a.2, ⟨(0, ints m.length), (fitK [] [0, 1]), Nat.zero_le _, id, Fo.init _, Ker.refl _ _⟩, fun ⟨i, up⟩ ⟨hi, f, hF, hK⟩ => ?_⟩
  dsimp only at hi hF hK ⊢
  refine stp ?_; try with_reducible exact True.intro
  refine Br.mk (fun h5 => ?_) (fun h5 => ?_) <;> simp [-Int.ofNat_toNat] at h5
  · have hx := h4 i h5
    have hmt := mate_in h3 h5
    have xr := xor1 i (by omega)
    obtain ⟨up1, f1, hF1, hK1, hc1⟩ := join hF (i : Int) (rd m i) ⟨by omega, by omega⟩ hx
    obtain ⟨up2, f2, hF2, hK2, hc2⟩ := join hF1 (i : Int) (mate i) ⟨by omega, by omega⟩ hmt
    refine stp ?_; try with_reducible exact True.intro
    refine useI [0, 1] (hc1) ?_; try with_reducible exact True.intro
    rw [← xr] at hc2
    refine useI [0, 1] (hc2) ?_; try with_reducible exact True.intro
    refine ⟨(i + 1, up2), (fitK [] [0, 1]), ⟨by dsimp only; omega, f2, hF2, hK2 _ (hK1 _ hK)⟩, by dsimp only; omega⟩
  · obtain rfl : i = m.length := by omega
    obtain ⟨up0, h0⟩ := jm_fo h3 h4 m.length (Nat.le_refl _)
    have hr := roots_eq hF h0 hK
    have hc := count hF (by omega)
    rw [hr] at hc
    refine stp ?_; try with_reducible exact True.intro
    refine useI [0, 1] (hc) ?_; try with_reducible exact True.intro
    rfl
theorem l6Parts {m : List Int} (hm : isMap m = true) : ConS Tryd.prog 118 [.il m] (.i (parM m)) := by
  obtain ⟨h1, h2, h3, h4⟩ := isMap_facts hm
  refine conS_of hmix hTab Tryd.func118 rfl rfl (by kernel_rfl) (by show 1 ≤ Tryd.f118.ntmps; decide) rfl ?_
  refine stp ?_; try with_reducible exact True.intro
  refine ⟨Nat, fun i => i ≤ m.length, fun i => m.length - i, fun i => [(0, .il m), (3, .own 0 0 i), (4, .i i)], fun i => [.arr (.int .i64) (ints i) true], ⟨0, (fitK [] [0]), Nat.zero_le _⟩, fun i hi => ?_⟩
  dsimp only at hi ⊢
  refine stp ?_; try with_reducible exact True.intro
  refine Br.mk (fun h5 => ?_) (fun h5 => ?_) <;> simp [-Int.ofNat_toNat] at h5
  · refine stp ?_; try with_reducible exact True.intro
    refine ⟨i + 1, ⟨.frz [], [2], ⟨rfl, rfl, rfl, trivial⟩, ⟨?_, trivial⟩, by decide, rfl, rfl, rfl⟩, by first | ((try dsimp only); omega) | (simp; omega), by first | ((try dsimp only); omega) | (simp; omega)⟩
    rw [ints_succ]
    refine congrArg (fun x => some (Obj.arr (.int .i64) x true)) ?_
    simp
    exact List.take_of_length_le (by simp [ints])
  · obtain rfl : i = m.length := by omega
    refine stp ?_; try with_reducible exact True.intro
    have hil : (ints m.length).length = m.length := by simp [ints]
    refine ⟨Nat × List Int, fun a => a.1 ≤ m.length ∧ Fo m.length a.2 (jm m a.1), fun a => m.length - a.1, fun a => [(0, .il m), (3, .own 0 0 a.2.length), (5, .i a.1)], fun a => [.arr (.int .i64) a.2 true], ⟨(0, ints m.length), ⟨.frz [], [0], ⟨rfl, by show V.own 0 0 _ = V.own 0 0 _; rw [hil], rfl, trivial⟩, ⟨rfl, trivial⟩, by decide, rfl, rfl, rfl⟩, Nat.zero_le _, Fo.init _⟩, fun ⟨i, up⟩ ⟨hi, hF⟩ => ?_⟩
    dsimp only at hi hF ⊢
    have hlen := hF.len
    refine stp ?_; try with_reducible exact True.intro
    refine Br.mk (fun h6 => ?_) (fun h6 => ?_) <;> simp [-Int.ofNat_toNat] at h6
    · have hx := h4 i h6
      have hmt := mate_in h3 h6
      have hii : InR m.length (i : Int) := ⟨by omega, by omega⟩
      have mr := mate_eq i (by omega)
      have wm := l6Mate i (by omega)
      rw [mr] at wm
      have w1 := l3Find hF i hii
      have w2 := l3Find hF (rd m i) hx
      have hF1 := hF.join hii hx
      have w3 := l3Find hF1 i hii
      have w4 := l3Find hF1 (mate i) hmt
      have hF2 := hF1.join hii hmt
      have r1 : 0 ≤ jm m i i ∧ jm m i i < m.length := hF.rng _ hii
      have r3 : 0 ≤ jm m i (rd m i) ∧ jm m i (rd m i) < m.length := hF.rng _ hx
      have r2 : 0 ≤ joinF (jm m i) i (rd m i) i ∧ joinF (jm m i) i (rd m i) i < m.length := hF1.rng _ hii
      refine stp ?_; try with_reducible exact True.intro
      refine .inl ⟨_, _, w1, by repeat (first | exact trivial | refine ⟨by first | exact rfl | exact trivial | exact ⟨_, rfl, rfl⟩ | exact ⟨_, _, rfl, by first | (simp; done) | (simp; omega), by first | (simp; done) | (simp [List.take_of_length_le]; done) | (rw [List.drop_zero]; exact List.take_of_length_le (by first | omega | (simp; omega))) | (simp [List.take_of_length_le]; omega)⟩ | exact ⟨_, rfl, by first | (simp; done) | (simp; omega), by first | (simp; done) | (simp [List.take_of_length_le]; done) | (rw [List.drop_zero]; exact List.take_of_length_le (by first | omega | (simp; omega))) | (simp [List.take_of_length_le]; omega)⟩, ?_⟩), ?_⟩; refine stp ?_; try with_reducible exact True.intro
      refine .inl ⟨_, _, w2, by repeat (first | exact trivial | refine ⟨by first | exact rfl | exact trivial | exact ⟨_, rfl, rfl⟩ | exact ⟨_, _, rfl, by first | (simp; done) | (simp; omega), by first | (simp; done) | (simp [List.take_of_length_le]; done) | (rw [List.drop_zero]; exact List.take_of_length_le (by first | omega | (simp; omega))) | (simp [List.take_of_length_le]; omega)⟩ | exact ⟨_, rfl, by first | (simp; done) | (simp; omega), by first | (simp; done) | (simp [List.take_of_length_le]; done) | (rw [List.drop_zero]; exact List.take_of_length_le (by first | omega | (simp; omega))) | (simp [List.take_of_length_le]; omega)⟩, ?_⟩), ?_⟩; refine stp ?_; try with_reducible exact True.intro
      refine useT (w3.toT) ?_; try with_reducible exact True.intro
      refine useT (wm.toT) ?_; try with_reducible exact True.intro
      refine useT (w4.toT) ?_; try with_reducible exact True.intro
      refine ⟨(i + 1, _), ⟨.frz [], [0], ⟨rfl, ?_, rfl, trivial⟩, ⟨rfl, trivial⟩, by decide, rfl, rfl, rfl⟩, ⟨by dsimp only; omega, hF2⟩, by dsimp only; omega⟩
      show V.own 0 0 _ = V.own 0 0 _
      simp
    · obtain rfl : i = m.length := by omega
      have hbl := roots_len (jm m m.length)
      refine stp ?_; try with_reducible exact True.intro
      refine ⟨Nat, fun i => i ≤ m.length, fun i => m.length - i, fun i => [(0, .il m), (3, .own 0 0 up.length), (6, .i (rootsOf i (jm m m.length)).length), (7, .i i)], fun i => [.arr (.int .i64) up true], ⟨0, (fitK [] [0]), Nat.zero_le _⟩, fun i hi => ?_⟩
      dsimp only at hi ⊢
      have hb := hbl i
      refine stp ?_; try with_reducible exact True.intro
      refine Br.mk (fun h7 => ?_) (fun h7 => ?_) <;> simp [-Int.ofNat_toNat] at h7
      · have hro := hF.root (x := (i : Int)) ⟨by omega, by omega⟩
        have hrs := roots_succ (jm m m.length) i
        refine stp ?_; try with_reducible exact True.intro
        have wb := l1Bit (decide (rd up i = i))
        refine useT (wb.toT) ?_; try with_reducible exact True.intro
        refine ⟨i + 1, ⟨.frz [], [0], ⟨rfl, rfl, ?_, rfl, trivial⟩, ⟨rfl, trivial⟩, by decide, rfl, rfl, rfl⟩, by omega, by omega⟩
        refine congrArg (fun x : Int => V.i x) ?_
        rw [hrs]
        by_cases e : jm m m.length i = i
        · rw [if_pos e]
          show _ + (if decide (rd up i = i) = true then (1 : Int) else 0) = _
          rw [if_pos (decide_eq_true (hro.2 e))]
          omega
        · rw [if_neg e]
          show _ + (if decide (rd up i = i) = true then (1 : Int) else 0) = _
          rw [if_neg (fun h => e (hro.1 (of_decide_eq_true h)))]
          omega
      · obtain rfl : i = m.length := by omega
        refine stp ?_; try with_reducible exact True.intro
        rfl
end Go.Proofs.YtffiddkignmobaaDoorTv
end
section
open Go Go.Proofs.YtffiddkignmobaaDoorVe Go.Proofs.YtffiddkignmobaaDoorTv Go.Proofs
namespace Go.Proofs.YtffiddkignmobaaDoorTv
set_option maxRecDepth 8000
set_option maxHeartbeats 2000000
theorem fewF_rng (m : List Int) : ∀ f k, k + f ≤ 8 → -1 ≤ fewF m f k ∧ fewF m f k ≤ 8
  | 0, k, h => by unfold fewF; omega
  | f + 1, k, h => by
    unfold fewF
    have := fewF_rng m f (k + 1) (by omega)
    split <;> omega
theorem few_rng (m : List Int) : -1 ≤ few m ∧ few m ≤ 8 := by
  unfold few
  split
  · exact fewF_rng m 7 1 (by omega)
  · omega
def genM (m : List Int) : Int := parM m - (((cyc m).length : Int) - (m.length : Int).tdiv 2 + (cyc (dualF m)).length).tdiv 2
theorem parM_le (m : List Int) : parM m ≤ m.length := roots_len _ _
theorem cycd_le (m : List Int) : (cyc (dualF m)).length ≤ m.length := by have := cyc_length (dualF m); rwa [dualF_length] at this
theorem half {n : Nat} : ((n : Int)).tdiv 2 = ((n / 2 : Nat) : Int) := rfl
theorem tdiv2 (x : Int) (h : -200 ≤ x ∧ x ≤ 200) : -100 ≤ x.tdiv 2 ∧ x.tdiv 2 ≤ 100 := by
  have : (x.tdiv 2).natAbs = x.natAbs / 2 := Int.natAbs_tdiv x 2
  generalize x.tdiv 2 = y at *
  omega
theorem genM_rng {m : List Int} (h : m.length ≤ 24) : -200 ≤ genM m ∧ genM m ≤ 200 := by
  have h1 := parM_le m
  have h2 := cyc_length m
  have h3 := cycd_le m
  have h4 : 0 ≤ m.length / 2 ∧ m.length / 2 ≤ 24 := by omega
  unfold genM
  rw [half]
  generalize m.length / 2 = z at *
  have := tdiv2 (((cyc m).length : Int) - z + (cyc (dualF m)).length) (by omega)
  omega
theorem MapPartsS {m : List Int} (hm : isMap m = true) : ConS Tryd.prog 45 [.il m] (.i (parM m)) := by
  obtain ⟨h1, h2, h3, h4⟩ := isMap_facts hm
  have hi := IsMapS m (by omega)
  have hp := l6Parts hm
  rw [hm] at hi
  refine conS_of hmix hTab Tryd.func45 rfl rfl (by kernel_rfl) (by show 1 ≤ Tryd.f45.ntmps; decide) rfl ?_
  refine stp ?_; try with_reducible exact True.intro
  refine useT (hi.toT) ?_; try with_reducible exact True.intro
  refine useT (hp.toT) ?_; try with_reducible exact True.intro
theorem l6Genus {m : List Int} (hm : isMap m = true) : ConS Tryd.prog 119 [.il m] (.i (genM m)) := by
  obtain ⟨h1, h2, h3, h4⟩ := isMap_facts hm
  have hp := l6Parts hm
  have k1 := parM_le m
  have k2 := cyc_length m
  have k3 := cycd_le m
  have hl := dualF_length m
  have hd := l6Dual m h1 h3
  rw [← hl] at hd
  have hc := l6Cycles (dualF m) (by omega) (dualF_in h4 h3)
  have h5 : 0 ≤ m.length / 2 ∧ m.length / 2 ≤ 24 := by omega
  have hh := half (n := m.length)
  have hx := tdiv2 (((cyc m).length : Int) - (m.length : Int).tdiv 2 + (cyc (dualF m)).length) (by rw [hh]; generalize m.length / 2 = z at *; omega)
  unfold genM
  refine conS_of hmix hTab Tryd.func119 rfl rfl (by kernel_rfl) (by show 1 ≤ Tryd.f119.ntmps; decide) rfl ?_
  refine stp ?_; try with_reducible exact True.intro
  refine useT (hp.toT) ?_; try with_reducible exact True.intro
  refine useT ((l6Cycles m h1 h4)) ?_; try with_reducible exact True.intro
  refine useT (hd) ?_; try with_reducible exact True.intro
  refine useT (hc) ?_; try with_reducible exact True.intro
  try rfl
theorem GenusOfS {m : List Int} (hm : isMap m = true) : ConS Tryd.prog 46 [.il m] (.i (genM m)) := by
  obtain ⟨h1, h2, h3, h4⟩ := isMap_facts hm
  have hi := IsMapS m (by omega)
  have hp := l6Genus hm
  rw [hm] at hi
  refine conS_of hmix hTab Tryd.func46 rfl rfl (by kernel_rfl) (by show 1 ≤ Tryd.f46.ntmps; decide) rfl ?_
  refine stp ?_; try with_reducible exact True.intro
  refine useT (hi.toT) ?_; try with_reducible exact True.intro
  refine useT (hp.toT) ?_; try with_reducible exact True.intro
theorem GenusOfI {m : List Int} (hm : isMap m = true) : ConS Tryd.prog 52 [.il m] (.i (genM m)) := by
  obtain ⟨h1, h2, h3, h4⟩ := isMap_facts hm
  have hi := IsMapI m (by omega)
  rw [hm] at hi
  have hp := MapPartsI hm
  have k1 := parM_le m
  have k2 := cyc_length m
  have k3 := cycd_le m
  have hl := dualF_length m
  have hd := dual m h1 h3
  rw [← hl] at hd
  have hc := cycles (dualF m) (by omega) (dualF_in h4 h3)
  have h5 : 0 ≤ m.length / 2 ∧ m.length / 2 ≤ 24 := by omega
  have hh := half (n := m.length)
  have hx := tdiv2 (((cyc m).length : Int) - (m.length : Int).tdiv 2 + (cyc (dualF m)).length) (by rw [hh]; generalize m.length / 2 = z at *; omega)
  unfold genM
  refine conS_of hmix hTab Tryd.func52 rfl rfl (by kernel_rfl) (by show 1 ≤ Tryd.f52.ntmps; decide) rfl ?_
  refine stp ?_; try with_reducible exact True.intro
  refine useT (hi.toT) ?_; try with_reducible exact True.intro
  refine useT (hp.toT) ?_; try with_reducible exact True.intro
  refine useT ((cycles m h1 h4)) ?_; try with_reducible exact True.intro
  refine useT (hd) ?_; try with_reducible exact True.intro
  refine useT (hc) ?_; try with_reducible exact True.intro
  try rfl
def dmp (v e f p g c : ByteArray) : ByteArray := ⟨#[118, 101, 114, 116, 105, 99, 101, 115, 32]⟩ ++ v ++ ⟨#[32, 101, 100, 103, 101, 115, 32]⟩ ++ e ++ ⟨#[32, 102, 97, 99, 101, 115, 32]⟩ ++ f ++ ⟨#[32, 112, 97, 114, 116, 115, 32]⟩ ++ p ++ ⟨#[32, 103, 101, 110, 117, 115, 32]⟩ ++ g ++ ⟨#[32, 99, 111, 108, 111, 117, 114, 115, 32]⟩ ++ c
theorem dmp_joi (v e f p g c : ByteArray) : joi [⟨#[118, 101, 114, 116, 105, 99, 101, 115]⟩, v, ⟨#[101, 100, 103, 101, 115]⟩, e, ⟨#[102, 97, 99, 101, 115]⟩, f, ⟨#[112, 97, 114, 116, 115]⟩, p, ⟨#[103, 101, 110, 117, 115]⟩, g, ⟨#[99, 111, 108, 111, 117, 114, 115]⟩, c] ⟨#[32]⟩ = dmp v e f p g c := by
  simp only [joi_cons, joi_one, dmp]
  apply ByteArray.ext
  apply Array.toList_inj.1
  simp [ByteArray.data_append]
def dmpM (m : List Int) : ByteArray := if isMap m = true then dmp (ito (cyc m).length) (ito ((m.length : Int).tdiv 2)) (ito (cyc (dualF m)).length) (ito (parM m)) (ito (genM m)) (ito (few m)) else ⟨#[]⟩
structure MapSz (m : List Int) : Prop where
  a : (ito (cyc m).length).size ≤ 21
  b : (ito ((m.length : Int).tdiv 2)).size ≤ 21
  c : (ito (cyc (dualF m)).length).size ≤ 21
  d : (ito (parM m)).size ≤ 21
  e : (ito (genM m)).size ≤ 21
  f : (ito (few m)).size ≤ 21
theorem DescribeMapI (m : List Int) (hl : (m.length : Int) ≤ 1048576) : ConS Tryd.prog 14 [.il m] (.s (dmpM m)) := by
  have hi := IsMapI m hl
  unfold dmpM
  cases hm : isMap m with
  | false =>
    rw [hm] at hi
    refine conS_of hmix hTab Tryd.func14 rfl rfl (by kernel_rfl) (by show 1 ≤ Tryd.f14.ntmps; decide) rfl ?_
    refine stp ?_; try with_reducible exact True.intro
    refine useT (hi.toT) ?_; try with_reducible exact True.intro
    rfl
  | true =>
    rw [hm] at hi
    rw [if_pos rfl]
    obtain ⟨h1, h2, h3, h4⟩ := isMap_facts hm
    have k1 := parM_le m
    have k2 := cyc_length m
    have k3 := cycd_le m
    have k4 := few_rng m
    have k5 := genM_rng h1
    have hh := half (n := m.length)
    have h5 : 0 ≤ (m.length : Int).tdiv 2 ∧ (m.length : Int).tdiv 2 ≤ 24 := by rw [hh]; omega
    have s1 := ito_s (cyc m).length (by omega)
    have s2 := ito_s ((m.length : Int).tdiv 2) (by omega)
    have s3 := ito_s (cyc (dualF m)).length (by omega)
    have s4 := ito_s (parM m) (by omega)
    have s5 := ito_s (genM m) (by omega)
    have s6 := ito_s (few m) (by omega)
    refine conS_of hmix hTab Tryd.func14 rfl rfl (by kernel_rfl) (by show 1 ≤ Tryd.f14.ntmps; decide) rfl ?_
    repeat (first | (with_reducible refine wpKs ?_) | (with_reducible refine wpKb ?_) | (with_reducible refine wpKbn ?_) | (with_reducible refine wpKk ?_) | (refine wpKt rfl ?_) | (refine wpKf rfl ?_) | (with_reducible refine wpKr ?_) | ((with_reducible refine wpKd ?_ ?_); kernel_rfl) | (with_reducible refine wpKn ?_) | (with_reducible refine seqKn ?_) | (with_reducible refine drawKn ?_) | (first | refine seqKs rfl rfl rfl rfl ?_ | refine seqKu rfl rfl rfl rfl ?_ | refine drawKs rfl rfl rfl rfl ?_ | refine drawKu rfl rfl rfl rfl ?_) | ((first | refine seqK rfl rfl (fun K' hK => ?_) | refine seqKr rfl rfl rfl rfl (fun K' hK => ?_)); refine stp ?_; with_reducible refine hK _ _ ?_; clear hK K') | ((first | refine drawK rfl rfl (fun K' hK => ?_) | refine drawKr rfl rfl rfl rfl (fun K' hK => ?_)); refine stp ?_; with_reducible refine hK _ _ _ ?_; clear hK K') | (refine seqKz rfl rfl (fun K' hK => ?_); refine stp ?_; with_reducible refine hK _ ?_; clear hK K') | (refine drawKz rfl rfl (fun K' hK => ?_); refine stp ?_; with_reducible refine hK _ _ ?_; clear hK K'))
    (first | refine seqK rfl rfl (fun K' hK => ?_) | refine seqKr rfl rfl rfl rfl (fun K' hK => ?_)); (conv => whnf); refine useT (hi.toT) ?_; (with_reducible refine hK _ _ ?_); clear hK K'; repeat (first | (with_reducible refine wpKs ?_) | (with_reducible refine wpKb ?_) | (with_reducible refine wpKbn ?_) | (with_reducible refine wpKk ?_) | (refine wpKt rfl ?_) | (refine wpKf rfl ?_) | (with_reducible refine wpKr ?_) | ((with_reducible refine wpKd ?_ ?_); kernel_rfl) | (with_reducible refine wpKn ?_) | (with_reducible refine seqKn ?_) | (with_reducible refine drawKn ?_) | (first | refine seqKs rfl rfl rfl rfl ?_ | refine seqKu rfl rfl rfl rfl ?_ | refine drawKs rfl rfl rfl rfl ?_ | refine drawKu rfl rfl rfl rfl ?_) | ((first | refine seqK rfl rfl (fun K' hK => ?_) | refine seqKr rfl rfl rfl rfl (fun K' hK => ?_)); refine stp ?_; with_reducible refine hK _ _ ?_; clear hK K') | ((first | refine drawK rfl rfl (fun K' hK => ?_) | refine drawKr rfl rfl rfl rfl (fun K' hK => ?_)); refine stp ?_; with_reducible refine hK _ _ _ ?_; clear hK K') | (refine seqKz rfl rfl (fun K' hK => ?_); refine stp ?_; with_reducible refine hK _ ?_; clear hK K') | (refine drawKz rfl rfl (fun K' hK => ?_); refine stp ?_; with_reducible refine hK _ _ ?_; clear hK K'))
    (first | refine seqK rfl rfl (fun K' hK => ?_) | refine seqKr rfl rfl rfl rfl (fun K' hK => ?_)); (conv => whnf); refine useT ((CyclesOfI hm)) ?_; (with_reducible refine hK _ _ ?_); clear hK K'; repeat (first | (with_reducible refine wpKs ?_) | (with_reducible refine wpKb ?_) | (with_reducible refine wpKbn ?_) | (with_reducible refine wpKk ?_) | (refine wpKt rfl ?_) | (refine wpKf rfl ?_) | (with_reducible refine wpKr ?_) | ((with_reducible refine wpKd ?_ ?_); kernel_rfl) | (with_reducible refine wpKn ?_) | (with_reducible refine seqKn ?_) | (with_reducible refine drawKn ?_) | (first | refine seqKs rfl rfl rfl rfl ?_ | refine seqKu rfl rfl rfl rfl ?_ | refine drawKs rfl rfl rfl rfl ?_ | refine drawKu rfl rfl rfl rfl ?_) | ((first | refine seqK rfl rfl (fun K' hK => ?_) | refine seqKr rfl rfl rfl rfl (fun K' hK => ?_)); refine stp ?_; with_reducible refine hK _ _ ?_; clear hK K') | ((first | refine drawK rfl rfl (fun K' hK => ?_) | refine drawKr rfl rfl rfl rfl (fun K' hK => ?_)); refine stp ?_; with_reducible refine hK _ _ _ ?_; clear hK K') | (refine seqKz rfl rfl (fun K' hK => ?_); refine stp ?_; with_reducible refine hK _ ?_; clear hK K') | (refine drawKz rfl rfl (fun K' hK => ?_); refine stp ?_; with_reducible refine hK _ _ ?_; clear hK K'))
    (first | refine seqK rfl rfl (fun K' hK => ?_) | refine seqKr rfl rfl rfl rfl (fun K' hK => ?_)); (conv => whnf); refine useT ((FormatIntI (cyc m).length (by omega) (by omega)).toT) ?_; (with_reducible refine hK _ _ ?_); clear hK K'; repeat (first | (with_reducible refine wpKs ?_) | (with_reducible refine wpKb ?_) | (with_reducible refine wpKbn ?_) | (with_reducible refine wpKk ?_) | (refine wpKt rfl ?_) | (refine wpKf rfl ?_) | (with_reducible refine wpKr ?_) | ((with_reducible refine wpKd ?_ ?_); kernel_rfl) | (with_reducible refine wpKn ?_) | (with_reducible refine seqKn ?_) | (with_reducible refine drawKn ?_) | (first | refine seqKs rfl rfl rfl rfl ?_ | refine seqKu rfl rfl rfl rfl ?_ | refine drawKs rfl rfl rfl rfl ?_ | refine drawKu rfl rfl rfl rfl ?_) | ((first | refine seqK rfl rfl (fun K' hK => ?_) | refine seqKr rfl rfl rfl rfl (fun K' hK => ?_)); refine stp ?_; with_reducible refine hK _ _ ?_; clear hK K') | ((first | refine drawK rfl rfl (fun K' hK => ?_) | refine drawKr rfl rfl rfl rfl (fun K' hK => ?_)); refine stp ?_; with_reducible refine hK _ _ _ ?_; clear hK K') | (refine seqKz rfl rfl (fun K' hK => ?_); refine stp ?_; with_reducible refine hK _ ?_; clear hK K') | (refine drawKz rfl rfl (fun K' hK => ?_); refine stp ?_; with_reducible refine hK _ _ ?_; clear hK K'))
    (first | refine seqK rfl rfl (fun K' hK => ?_) | refine seqKr rfl rfl rfl rfl (fun K' hK => ?_)); (conv => whnf); refine useT ((FormatIntI ((m.length : Int).tdiv 2) (by omega) (by omega)).toT) ?_; (with_reducible refine hK _ _ ?_); clear hK K'; repeat (first | (with_reducible refine wpKs ?_) | (with_reducible refine wpKb ?_) | (with_reducible refine wpKbn ?_) | (with_reducible refine wpKk ?_) | (refine wpKt rfl ?_) | (refine wpKf rfl ?_) | (with_reducible refine wpKr ?_) | ((with_reducible refine wpKd ?_ ?_); kernel_rfl) | (with_reducible refine wpKn ?_) | (with_reducible refine seqKn ?_) | (with_reducible refine drawKn ?_) | (first | refine seqKs rfl rfl rfl rfl ?_ | refine seqKu rfl rfl rfl rfl ?_ | refine drawKs rfl rfl rfl rfl ?_ | refine drawKu rfl rfl rfl rfl ?_) | ((first | refine seqK rfl rfl (fun K' hK => ?_) | refine seqKr rfl rfl rfl rfl (fun K' hK => ?_)); refine stp ?_; with_reducible refine hK _ _ ?_; clear hK K') | ((first | refine drawK rfl rfl (fun K' hK => ?_) | refine drawKr rfl rfl rfl rfl (fun K' hK => ?_)); refine stp ?_; with_reducible refine hK _ _ _ ?_; clear hK K') | (refine seqKz rfl rfl (fun K' hK => ?_); refine stp ?_; with_reducible refine hK _ ?_; clear hK K') | (refine drawKz rfl rfl (fun K' hK => ?_); refine stp ?_; with_reducible refine hK _ _ ?_; clear hK K'))
    (first | refine seqK rfl rfl (fun K' hK => ?_) | refine seqKr rfl rfl rfl rfl (fun K' hK => ?_)); (conv => whnf); refine useT ((FacesOfI hm)) ?_; (with_reducible refine hK _ _ ?_); clear hK K'; repeat (first | (with_reducible refine wpKs ?_) | (with_reducible refine wpKb ?_) | (with_reducible refine wpKbn ?_) | (with_reducible refine wpKk ?_) | (refine wpKt rfl ?_) | (refine wpKf rfl ?_) | (with_reducible refine wpKr ?_) | ((with_reducible refine wpKd ?_ ?_); kernel_rfl) | (with_reducible refine wpKn ?_) | (with_reducible refine seqKn ?_) | (with_reducible refine drawKn ?_) | (first | refine seqKs rfl rfl rfl rfl ?_ | refine seqKu rfl rfl rfl rfl ?_ | refine drawKs rfl rfl rfl rfl ?_ | refine drawKu rfl rfl rfl rfl ?_) | ((first | refine seqK rfl rfl (fun K' hK => ?_) | refine seqKr rfl rfl rfl rfl (fun K' hK => ?_)); refine stp ?_; with_reducible refine hK _ _ ?_; clear hK K') | ((first | refine drawK rfl rfl (fun K' hK => ?_) | refine drawKr rfl rfl rfl rfl (fun K' hK => ?_)); refine stp ?_; with_reducible refine hK _ _ _ ?_; clear hK K') | (refine seqKz rfl rfl (fun K' hK => ?_); refine stp ?_; with_reducible refine hK _ ?_; clear hK K') | (refine drawKz rfl rfl (fun K' hK => ?_); refine stp ?_; with_reducible refine hK _ _ ?_; clear hK K'))
    (first | refine seqK rfl rfl (fun K' hK => ?_) | refine seqKr rfl rfl rfl rfl (fun K' hK => ?_)); (conv => whnf); refine useT ((FormatIntI (cyc (dualF m)).length (by omega) (by omega)).toT) ?_; (with_reducible refine hK _ _ ?_); clear hK K'; repeat (first | (with_reducible refine wpKs ?_) | (with_reducible refine wpKb ?_) | (with_reducible refine wpKbn ?_) | (with_reducible refine wpKk ?_) | (refine wpKt rfl ?_) | (refine wpKf rfl ?_) | (with_reducible refine wpKr ?_) | ((with_reducible refine wpKd ?_ ?_); kernel_rfl) | (with_reducible refine wpKn ?_) | (with_reducible refine seqKn ?_) | (with_reducible refine drawKn ?_) | (first | refine seqKs rfl rfl rfl rfl ?_ | refine seqKu rfl rfl rfl rfl ?_ | refine drawKs rfl rfl rfl rfl ?_ | refine drawKu rfl rfl rfl rfl ?_) | ((first | refine seqK rfl rfl (fun K' hK => ?_) | refine seqKr rfl rfl rfl rfl (fun K' hK => ?_)); refine stp ?_; with_reducible refine hK _ _ ?_; clear hK K') | ((first | refine drawK rfl rfl (fun K' hK => ?_) | refine drawKr rfl rfl rfl rfl (fun K' hK => ?_)); refine stp ?_; with_reducible refine hK _ _ _ ?_; clear hK K') | (refine seqKz rfl rfl (fun K' hK => ?_); refine stp ?_; with_reducible refine hK _ ?_; clear hK K') | (refine drawKz rfl rfl (fun K' hK => ?_); refine stp ?_; with_reducible refine hK _ _ ?_; clear hK K'))
    (first | refine seqK rfl rfl (fun K' hK => ?_) | refine seqKr rfl rfl rfl rfl (fun K' hK => ?_)); (conv => whnf); refine useT ((MapPartsI hm).toT) ?_; (with_reducible refine hK _ _ ?_); clear hK K'; repeat (first | (with_reducible refine wpKs ?_) | (with_reducible refine wpKb ?_) | (with_reducible refine wpKbn ?_) | (with_reducible refine wpKk ?_) | (refine wpKt rfl ?_) | (refine wpKf rfl ?_) | (with_reducible refine wpKr ?_) | ((with_reducible refine wpKd ?_ ?_); kernel_rfl) | (with_reducible refine wpKn ?_) | (with_reducible refine seqKn ?_) | (with_reducible refine drawKn ?_) | (first | refine seqKs rfl rfl rfl rfl ?_ | refine seqKu rfl rfl rfl rfl ?_ | refine drawKs rfl rfl rfl rfl ?_ | refine drawKu rfl rfl rfl rfl ?_) | ((first | refine seqK rfl rfl (fun K' hK => ?_) | refine seqKr rfl rfl rfl rfl (fun K' hK => ?_)); refine stp ?_; with_reducible refine hK _ _ ?_; clear hK K') | ((first | refine drawK rfl rfl (fun K' hK => ?_) | refine drawKr rfl rfl rfl rfl (fun K' hK => ?_)); refine stp ?_; with_reducible refine hK _ _ _ ?_; clear hK K') | (refine seqKz rfl rfl (fun K' hK => ?_); refine stp ?_; with_reducible refine hK _ ?_; clear hK K') | (refine drawKz rfl rfl (fun K' hK => ?_); refine stp ?_; with_reducible refine hK _ _ ?_; clear hK K'))
    (first | refine seqK rfl rfl (fun K' hK => ?_) | refine seqKr rfl rfl rfl rfl (fun K' hK => ?_)); (conv => whnf); refine useT ((FormatIntI (parM m) (by omega) (by omega)).toT) ?_; (with_reducible refine hK _ _ ?_); clear hK K'; repeat (first | (with_reducible refine wpKs ?_) | (with_reducible refine wpKb ?_) | (with_reducible refine wpKbn ?_) | (with_reducible refine wpKk ?_) | (refine wpKt rfl ?_) | (refine wpKf rfl ?_) | (with_reducible refine wpKr ?_) | ((with_reducible refine wpKd ?_ ?_); kernel_rfl) | (with_reducible refine wpKn ?_) | (with_reducible refine seqKn ?_) | (with_reducible refine drawKn ?_) | (first | refine seqKs rfl rfl rfl rfl ?_ | refine seqKu rfl rfl rfl rfl ?_ | refine drawKs rfl rfl rfl rfl ?_ | refine drawKu rfl rfl rfl rfl ?_) | ((first | refine seqK rfl rfl (fun K' hK => ?_) | refine seqKr rfl rfl rfl rfl (fun K' hK => ?_)); refine stp ?_; with_reducible refine hK _ _ ?_; clear hK K') | ((first | refine drawK rfl rfl (fun K' hK => ?_) | refine drawKr rfl rfl rfl rfl (fun K' hK => ?_)); refine stp ?_; with_reducible refine hK _ _ _ ?_; clear hK K') | (refine seqKz rfl rfl (fun K' hK => ?_); refine stp ?_; with_reducible refine hK _ ?_; clear hK K') | (refine drawKz rfl rfl (fun K' hK => ?_); refine stp ?_; with_reducible refine hK _ _ ?_; clear hK K'))
    (first | refine seqK rfl rfl (fun K' hK => ?_) | refine seqKr rfl rfl rfl rfl (fun K' hK => ?_)); (conv => whnf); refine useT ((GenusOfI hm).toT) ?_; (with_reducible refine hK _ _ ?_); clear hK K'; repeat (first | (with_reducible refine wpKs ?_) | (with_reducible refine wpKb ?_) | (with_reducible refine wpKbn ?_) | (with_reducible refine wpKk ?_) | (refine wpKt rfl ?_) | (refine wpKf rfl ?_) | (with_reducible refine wpKr ?_) | ((with_reducible refine wpKd ?_ ?_); kernel_rfl) | (with_reducible refine wpKn ?_) | (with_reducible refine seqKn ?_) | (with_reducible refine drawKn ?_) | (first | refine seqKs rfl rfl rfl rfl ?_ | refine seqKu rfl rfl rfl rfl ?_ | refine drawKs rfl rfl rfl rfl ?_ | refine drawKu rfl rfl rfl rfl ?_) | ((first | refine seqK rfl rfl (fun K' hK => ?_) | refine seqKr rfl rfl rfl rfl (fun K' hK => ?_)); refine stp ?_; with_reducible refine hK _ _ ?_; clear hK K') | ((first | refine drawK rfl rfl (fun K' hK => ?_) | refine drawKr rfl rfl rfl rfl (fun K' hK => ?_)); refine stp ?_; with_reducible refine hK _ _ _ ?_; clear hK K') | (refine seqKz rfl rfl (fun K' hK => ?_); refine stp ?_; with_reducible refine hK _ ?_; clear hK K') | (refine drawKz rfl rfl (fun K' hK => ?_); refine stp ?_; with_reducible refine hK _ _ ?_; clear hK K'))
    (first | refine seqK rfl rfl (fun K' hK => ?_) | refine seqKr rfl rfl rfl rfl (fun K' hK => ?_)); (conv => whnf); refine useT ((FormatIntI (genM m) (by omega) (by omega)).toT) ?_; (with_reducible refine hK _ _ ?_); clear hK K'; repeat (first | (with_reducible refine wpKs ?_) | (with_reducible refine wpKb ?_) | (with_reducible refine wpKbn ?_) | (with_reducible refine wpKk ?_) | (refine wpKt rfl ?_) | (refine wpKf rfl ?_) | (with_reducible refine wpKr ?_) | ((with_reducible refine wpKd ?_ ?_); kernel_rfl) | (with_reducible refine wpKn ?_) | (with_reducible refine seqKn ?_) | (with_reducible refine drawKn ?_) | (first | refine seqKs rfl rfl rfl rfl ?_ | refine seqKu rfl rfl rfl rfl ?_ | refine drawKs rfl rfl rfl rfl ?_ | refine drawKu rfl rfl rfl rfl ?_) | ((first | refine seqK rfl rfl (fun K' hK => ?_) | refine seqKr rfl rfl rfl rfl (fun K' hK => ?_)); refine stp ?_; with_reducible refine hK _ _ ?_; clear hK K') | ((first | refine drawK rfl rfl (fun K' hK => ?_) | refine drawKr rfl rfl rfl rfl (fun K' hK => ?_)); refine stp ?_; with_reducible refine hK _ _ _ ?_; clear hK K') | (refine seqKz rfl rfl (fun K' hK => ?_); refine stp ?_; with_reducible refine hK _ ?_; clear hK K') | (refine drawKz rfl rfl (fun K' hK => ?_); refine stp ?_; with_reducible refine hK _ _ ?_; clear hK K'))
    (first | refine seqK rfl rfl (fun K' hK => ?_) | refine seqKr rfl rfl rfl rfl (fun K' hK => ?_)); (conv => whnf); refine useT ((FewestColoursI m hl).toT) ?_; (with_reducible refine hK _ _ ?_); clear hK K'; repeat (first | (with_reducible refine wpKs ?_) | (with_reducible refine wpKb ?_) | (with_reducible refine wpKbn ?_) | (with_reducible refine wpKk ?_) | (refine wpKt rfl ?_) | (refine wpKf rfl ?_) | (with_reducible refine wpKr ?_) | ((with_reducible refine wpKd ?_ ?_); kernel_rfl) | (with_reducible refine wpKn ?_) | (with_reducible refine seqKn ?_) | (with_reducible refine drawKn ?_) | (first | refine seqKs rfl rfl rfl rfl ?_ | refine seqKu rfl rfl rfl rfl ?_ | refine drawKs rfl rfl rfl rfl ?_ | refine drawKu rfl rfl rfl rfl ?_) | ((first | refine seqK rfl rfl (fun K' hK => ?_) | refine seqKr rfl rfl rfl rfl (fun K' hK => ?_)); refine stp ?_; with_reducible refine hK _ _ ?_; clear hK K') | ((first | refine drawK rfl rfl (fun K' hK => ?_) | refine drawKr rfl rfl rfl rfl (fun K' hK => ?_)); refine stp ?_; with_reducible refine hK _ _ _ ?_; clear hK K') | (refine seqKz rfl rfl (fun K' hK => ?_); refine stp ?_; with_reducible refine hK _ ?_; clear hK K') | (refine drawKz rfl rfl (fun K' hK => ?_); refine stp ?_; with_reducible refine hK _ _ ?_; clear hK K'))
    (first | refine seqK rfl rfl (fun K' hK => ?_) | refine seqKr rfl rfl rfl rfl (fun K' hK => ?_)); (conv => whnf); refine useT ((FormatIntI (few m) (by omega) (by omega)).toT) ?_; (with_reducible refine hK _ _ ?_); clear hK K'; repeat (first | (with_reducible refine wpKs ?_) | (with_reducible refine wpKb ?_) | (with_reducible refine wpKbn ?_) | (with_reducible refine wpKk ?_) | (refine wpKt rfl ?_) | (refine wpKf rfl ?_) | (with_reducible refine wpKr ?_) | ((with_reducible refine wpKd ?_ ?_); kernel_rfl) | (with_reducible refine wpKn ?_) | (with_reducible refine seqKn ?_) | (with_reducible refine drawKn ?_) | (first | refine seqKs rfl rfl rfl rfl ?_ | refine seqKu rfl rfl rfl rfl ?_ | refine drawKs rfl rfl rfl rfl ?_ | refine drawKu rfl rfl rfl rfl ?_) | ((first | refine seqK rfl rfl (fun K' hK => ?_) | refine seqKr rfl rfl rfl rfl (fun K' hK => ?_)); refine stp ?_; with_reducible refine hK _ _ ?_; clear hK K') | ((first | refine drawK rfl rfl (fun K' hK => ?_) | refine drawKr rfl rfl rfl rfl (fun K' hK => ?_)); refine stp ?_; with_reducible refine hK _ _ _ ?_; clear hK K') | (refine seqKz rfl rfl (fun K' hK => ?_); refine stp ?_; with_reducible refine hK _ ?_; clear hK K') | (refine drawKz rfl rfl (fun K' hK => ?_); refine stp ?_; with_reducible refine hK _ _ ?_; clear hK K'))
    (first | refine seqK rfl rfl (fun K' hK => ?_) | refine seqKr rfl rfl rfl rfl (fun K' hK => ?_)); (conv => whnf); refine useT ((JoinI [⟨#[118, 101, 114, 116, 105, 99, 101, 115]⟩, ito (cyc m).length, ⟨#[101, 100, 103, 101, 115]⟩, ito ((m.length : Int).tdiv 2), ⟨#[102, 97, 99, 101, 115]⟩, ito (cyc (dualF m)).length, ⟨#[112, 97, 114, 116, 115]⟩, ito (parM m), ⟨#[103, 101, 110, 117, 115]⟩, ito (genM m), ⟨#[99, 111, 108, 111, 117, 114, 115]⟩, ito (few m)] ⟨#[32]⟩ (by rw [dmp_joi]; unfold dmp; simp only [ByteArray.size_append, szA, List.size_toArray, List.length_cons, List.length_nil]; omega)).toT) ?_; (with_reducible refine hK _ _ ?_); clear hK K'; repeat (first | (with_reducible refine wpKs ?_) | (with_reducible refine wpKb ?_) | (with_reducible refine wpKbn ?_) | (with_reducible refine wpKk ?_) | (refine wpKt rfl ?_) | (refine wpKf rfl ?_) | (with_reducible refine wpKr ?_) | ((with_reducible refine wpKd ?_ ?_); kernel_rfl) | (with_reducible refine wpKn ?_) | (with_reducible refine seqKn ?_) | (with_reducible refine drawKn ?_) | (first | refine seqKs rfl rfl rfl rfl ?_ | refine seqKu rfl rfl rfl rfl ?_ | refine drawKs rfl rfl rfl rfl ?_ | refine drawKu rfl rfl rfl rfl ?_) | ((first | refine seqK rfl rfl (fun K' hK => ?_) | refine seqKr rfl rfl rfl rfl (fun K' hK => ?_)); refine stp ?_; with_reducible refine hK _ _ ?_; clear hK K') | ((first | refine drawK rfl rfl (fun K' hK => ?_) | refine drawKr rfl rfl rfl rfl (fun K' hK => ?_)); refine stp ?_; with_reducible refine hK _ _ _ ?_; clear hK K') | (refine seqKz rfl rfl (fun K' hK => ?_); refine stp ?_; with_reducible refine hK _ ?_; clear hK K') | (refine drawKz rfl rfl (fun K' hK => ?_); refine stp ?_; with_reducible refine hK _ _ ?_; clear hK K'))
    refine stp ?_; try with_reducible exact True.intro
    rw [dmp_joi]
theorem DescribeMapS (m : List Int) (hl : (m.length : Int) ≤ 1048576) : ConS Tryd.prog 12 [.il m] (.s (dmpM m)) := by
  have hi := IsMapS m hl
  unfold dmpM
  cases hm : isMap m with
  | false =>
    rw [hm] at hi
    refine conS_of hmix hTab Tryd.func12 rfl rfl (by kernel_rfl) (by show 1 ≤ Tryd.f12.ntmps; decide) rfl ?_
    refine stp ?_; try with_reducible exact True.intro
    refine useT (hi.toT) ?_; try with_reducible exact True.intro
    rfl
  | true =>
    rw [hm] at hi
    rw [if_pos rfl]
    obtain ⟨h1, h2, h3, h4⟩ := isMap_facts hm
    have k1 := parM_le m
    have k2 := cyc_length m
    have k3 := cycd_le m
    have k4 := few_rng m
    have k5 := genM_rng h1
    have hh := half (n := m.length)
    have h5 : 0 ≤ (m.length : Int).tdiv 2 ∧ (m.length : Int).tdiv 2 ≤ 24 := by rw [hh]; omega
    have s1 := ito_s (cyc m).length (by omega)
    have s2 := ito_s ((m.length : Int).tdiv 2) (by omega)
    have s3 := ito_s (cyc (dualF m)).length (by omega)
    have s4 := ito_s (parM m) (by omega)
    have s5 := ito_s (genM m) (by omega)
    have s6 := ito_s (few m) (by omega)
    refine conS_of hmix hTab Tryd.func12 rfl rfl (by kernel_rfl) (by show 1 ≤ Tryd.f12.ntmps; decide) rfl ?_
    repeat (first | (with_reducible refine wpKs ?_) | (with_reducible refine wpKb ?_) | (with_reducible refine wpKbn ?_) | (with_reducible refine wpKk ?_) | (refine wpKt rfl ?_) | (refine wpKf rfl ?_) | (with_reducible refine wpKr ?_) | ((with_reducible refine wpKd ?_ ?_); kernel_rfl) | (with_reducible refine wpKn ?_) | (with_reducible refine seqKn ?_) | (with_reducible refine drawKn ?_) | (first | refine seqKs rfl rfl rfl rfl ?_ | refine seqKu rfl rfl rfl rfl ?_ | refine drawKs rfl rfl rfl rfl ?_ | refine drawKu rfl rfl rfl rfl ?_) | ((first | refine seqK rfl rfl (fun K' hK => ?_) | refine seqKr rfl rfl rfl rfl (fun K' hK => ?_)); refine stp ?_; with_reducible refine hK _ _ ?_; clear hK K') | ((first | refine drawK rfl rfl (fun K' hK => ?_) | refine drawKr rfl rfl rfl rfl (fun K' hK => ?_)); refine stp ?_; with_reducible refine hK _ _ _ ?_; clear hK K') | (refine seqKz rfl rfl (fun K' hK => ?_); refine stp ?_; with_reducible refine hK _ ?_; clear hK K') | (refine drawKz rfl rfl (fun K' hK => ?_); refine stp ?_; with_reducible refine hK _ _ ?_; clear hK K'))
    (first | refine seqK rfl rfl (fun K' hK => ?_) | refine seqKr rfl rfl rfl rfl (fun K' hK => ?_)); (conv => whnf); refine useT (hi.toT) ?_; (with_reducible refine hK _ _ ?_); clear hK K'; repeat (first | (with_reducible refine wpKs ?_) | (with_reducible refine wpKb ?_) | (with_reducible refine wpKbn ?_) | (with_reducible refine wpKk ?_) | (refine wpKt rfl ?_) | (refine wpKf rfl ?_) | (with_reducible refine wpKr ?_) | ((with_reducible refine wpKd ?_ ?_); kernel_rfl) | (with_reducible refine wpKn ?_) | (with_reducible refine seqKn ?_) | (with_reducible refine drawKn ?_) | (first | refine seqKs rfl rfl rfl rfl ?_ | refine seqKu rfl rfl rfl rfl ?_ | refine drawKs rfl rfl rfl rfl ?_ | refine drawKu rfl rfl rfl rfl ?_) | ((first | refine seqK rfl rfl (fun K' hK => ?_) | refine seqKr rfl rfl rfl rfl (fun K' hK => ?_)); refine stp ?_; with_reducible refine hK _ _ ?_; clear hK K') | ((first | refine drawK rfl rfl (fun K' hK => ?_) | refine drawKr rfl rfl rfl rfl (fun K' hK => ?_)); refine stp ?_; with_reducible refine hK _ _ _ ?_; clear hK K') | (refine seqKz rfl rfl (fun K' hK => ?_); refine stp ?_; with_reducible refine hK _ ?_; clear hK K') | (refine drawKz rfl rfl (fun K' hK => ?_); refine stp ?_; with_reducible refine hK _ _ ?_; clear hK K'))
    (first | refine seqK rfl rfl (fun K' hK => ?_) | refine seqKr rfl rfl rfl rfl (fun K' hK => ?_)); (conv => whnf); refine useT ((CyclesOfS hm)) ?_; (with_reducible refine hK _ _ ?_); clear hK K'; repeat (first | (with_reducible refine wpKs ?_) | (with_reducible refine wpKb ?_) | (with_reducible refine wpKbn ?_) | (with_reducible refine wpKk ?_) | (refine wpKt rfl ?_) | (refine wpKf rfl ?_) | (with_reducible refine wpKr ?_) | ((with_reducible refine wpKd ?_ ?_); kernel_rfl) | (with_reducible refine wpKn ?_) | (with_reducible refine seqKn ?_) | (with_reducible refine drawKn ?_) | (first | refine seqKs rfl rfl rfl rfl ?_ | refine seqKu rfl rfl rfl rfl ?_ | refine drawKs rfl rfl rfl rfl ?_ | refine drawKu rfl rfl rfl rfl ?_) | ((first | refine seqK rfl rfl (fun K' hK => ?_) | refine seqKr rfl rfl rfl rfl (fun K' hK => ?_)); refine stp ?_; with_reducible refine hK _ _ ?_; clear hK K') | ((first | refine drawK rfl rfl (fun K' hK => ?_) | refine drawKr rfl rfl rfl rfl (fun K' hK => ?_)); refine stp ?_; with_reducible refine hK _ _ _ ?_; clear hK K') | (refine seqKz rfl rfl (fun K' hK => ?_); refine stp ?_; with_reducible refine hK _ ?_; clear hK K') | (refine drawKz rfl rfl (fun K' hK => ?_); refine stp ?_; with_reducible refine hK _ _ ?_; clear hK K'))
    (first | refine seqK rfl rfl (fun K' hK => ?_) | refine seqKr rfl rfl rfl rfl (fun K' hK => ?_)); (conv => whnf); refine useT ((FormatIntS (cyc m).length (by omega) (by omega)).toT) ?_; (with_reducible refine hK _ _ ?_); clear hK K'; repeat (first | (with_reducible refine wpKs ?_) | (with_reducible refine wpKb ?_) | (with_reducible refine wpKbn ?_) | (with_reducible refine wpKk ?_) | (refine wpKt rfl ?_) | (refine wpKf rfl ?_) | (with_reducible refine wpKr ?_) | ((with_reducible refine wpKd ?_ ?_); kernel_rfl) | (with_reducible refine wpKn ?_) | (with_reducible refine seqKn ?_) | (with_reducible refine drawKn ?_) | (first | refine seqKs rfl rfl rfl rfl ?_ | refine seqKu rfl rfl rfl rfl ?_ | refine drawKs rfl rfl rfl rfl ?_ | refine drawKu rfl rfl rfl rfl ?_) | ((first | refine seqK rfl rfl (fun K' hK => ?_) | refine seqKr rfl rfl rfl rfl (fun K' hK => ?_)); refine stp ?_; with_reducible refine hK _ _ ?_; clear hK K') | ((first | refine drawK rfl rfl (fun K' hK => ?_) | refine drawKr rfl rfl rfl rfl (fun K' hK => ?_)); refine stp ?_; with_reducible refine hK _ _ _ ?_; clear hK K') | (refine seqKz rfl rfl (fun K' hK => ?_); refine stp ?_; with_reducible refine hK _ ?_; clear hK K') | (refine drawKz rfl rfl (fun K' hK => ?_); refine stp ?_; with_reducible refine hK _ _ ?_; clear hK K'))
    (first | refine seqK rfl rfl (fun K' hK => ?_) | refine seqKr rfl rfl rfl rfl (fun K' hK => ?_)); (conv => whnf); refine ⟨by (try simp only [ByteArray.size_append, szA, List.size_toArray, List.length_cons, List.length_nil, Nat.zero_add, Nat.reduceAdd]); omega, ?_⟩; refine stp ?_; (with_reducible refine hK _ _ ?_); clear hK K'; repeat (first | (with_reducible refine wpKs ?_) | (with_reducible refine wpKb ?_) | (with_reducible refine wpKbn ?_) | (with_reducible refine wpKk ?_) | (refine wpKt rfl ?_) | (refine wpKf rfl ?_) | (with_reducible refine wpKr ?_) | ((with_reducible refine wpKd ?_ ?_); kernel_rfl) | (with_reducible refine wpKn ?_) | (with_reducible refine seqKn ?_) | (with_reducible refine drawKn ?_) | (first | refine seqKs rfl rfl rfl rfl ?_ | refine seqKu rfl rfl rfl rfl ?_ | refine drawKs rfl rfl rfl rfl ?_ | refine drawKu rfl rfl rfl rfl ?_) | ((first | refine seqK rfl rfl (fun K' hK => ?_) | refine seqKr rfl rfl rfl rfl (fun K' hK => ?_)); refine stp ?_; with_reducible refine hK _ _ ?_; clear hK K') | ((first | refine drawK rfl rfl (fun K' hK => ?_) | refine drawKr rfl rfl rfl rfl (fun K' hK => ?_)); refine stp ?_; with_reducible refine hK _ _ _ ?_; clear hK K') | (refine seqKz rfl rfl (fun K' hK => ?_); refine stp ?_; with_reducible refine hK _ ?_; clear hK K') | (refine drawKz rfl rfl (fun K' hK => ?_); refine stp ?_; with_reducible refine hK _ _ ?_; clear hK K'))
    (first | refine seqK rfl rfl (fun K' hK => ?_) | refine seqKr rfl rfl rfl rfl (fun K' hK => ?_)); (conv => whnf); refine ⟨by (try simp only [ByteArray.size_append, szA, List.size_toArray, List.length_cons, List.length_nil, Nat.zero_add, Nat.reduceAdd]); omega, ?_⟩; refine stp ?_; (with_reducible refine hK _ _ ?_); clear hK K'; repeat (first | (with_reducible refine wpKs ?_) | (with_reducible refine wpKb ?_) | (with_reducible refine wpKbn ?_) | (with_reducible refine wpKk ?_) | (refine wpKt rfl ?_) | (refine wpKf rfl ?_) | (with_reducible refine wpKr ?_) | ((with_reducible refine wpKd ?_ ?_); kernel_rfl) | (with_reducible refine wpKn ?_) | (with_reducible refine seqKn ?_) | (with_reducible refine drawKn ?_) | (first | refine seqKs rfl rfl rfl rfl ?_ | refine seqKu rfl rfl rfl rfl ?_ | refine drawKs rfl rfl rfl rfl ?_ | refine drawKu rfl rfl rfl rfl ?_) | ((first | refine seqK rfl rfl (fun K' hK => ?_) | refine seqKr rfl rfl rfl rfl (fun K' hK => ?_)); refine stp ?_; with_reducible refine hK _ _ ?_; clear hK K') | ((first | refine drawK rfl rfl (fun K' hK => ?_) | refine drawKr rfl rfl rfl rfl (fun K' hK => ?_)); refine stp ?_; with_reducible refine hK _ _ _ ?_; clear hK K') | (refine seqKz rfl rfl (fun K' hK => ?_); refine stp ?_; with_reducible refine hK _ ?_; clear hK K') | (refine drawKz rfl rfl (fun K' hK => ?_); refine stp ?_; with_reducible refine hK _ _ ?_; clear hK K'))
    (first | refine seqK rfl rfl (fun K' hK => ?_) | refine seqKr rfl rfl rfl rfl (fun K' hK => ?_)); (conv => whnf); refine useT ((FormatIntS ((m.length : Int).tdiv 2) (by omega) (by omega)).toT) ?_; (with_reducible refine hK _ _ ?_); clear hK K'; repeat (first | (with_reducible refine wpKs ?_) | (with_reducible refine wpKb ?_) | (with_reducible refine wpKbn ?_) | (with_reducible refine wpKk ?_) | (refine wpKt rfl ?_) | (refine wpKf rfl ?_) | (with_reducible refine wpKr ?_) | ((with_reducible refine wpKd ?_ ?_); kernel_rfl) | (with_reducible refine wpKn ?_) | (with_reducible refine seqKn ?_) | (with_reducible refine drawKn ?_) | (first | refine seqKs rfl rfl rfl rfl ?_ | refine seqKu rfl rfl rfl rfl ?_ | refine drawKs rfl rfl rfl rfl ?_ | refine drawKu rfl rfl rfl rfl ?_) | ((first | refine seqK rfl rfl (fun K' hK => ?_) | refine seqKr rfl rfl rfl rfl (fun K' hK => ?_)); refine stp ?_; with_reducible refine hK _ _ ?_; clear hK K') | ((first | refine drawK rfl rfl (fun K' hK => ?_) | refine drawKr rfl rfl rfl rfl (fun K' hK => ?_)); refine stp ?_; with_reducible refine hK _ _ _ ?_; clear hK K') | (refine seqKz rfl rfl (fun K' hK => ?_); refine stp ?_; with_reducible refine hK _ ?_; clear hK K') | (refine drawKz rfl rfl (fun K' hK => ?_); refine stp ?_; with_reducible refine hK _ _ ?_; clear hK K'))
    (first | refine seqK rfl rfl (fun K' hK => ?_) | refine seqKr rfl rfl rfl rfl (fun K' hK => ?_)); (conv => whnf); refine ⟨by (try simp only [ByteArray.size_append, szA, List.size_toArray, List.length_cons, List.length_nil, Nat.zero_add, Nat.reduceAdd]); omega, ?_⟩; refine stp ?_; (with_reducible refine hK _ _ ?_); clear hK K'; repeat (first | (with_reducible refine wpKs ?_) | (with_reducible refine wpKb ?_) | (with_reducible refine wpKbn ?_) | (with_reducible refine wpKk ?_) | (refine wpKt rfl ?_) | (refine wpKf rfl ?_) | (with_reducible refine wpKr ?_) | ((with_reducible refine wpKd ?_ ?_); kernel_rfl) | (with_reducible refine wpKn ?_) | (with_reducible refine seqKn ?_) | (with_reducible refine drawKn ?_) | (first | refine seqKs rfl rfl rfl rfl ?_ | refine seqKu rfl rfl rfl rfl ?_ | refine drawKs rfl rfl rfl rfl ?_ | refine drawKu rfl rfl rfl rfl ?_) | ((first | refine seqK rfl rfl (fun K' hK => ?_) | refine seqKr rfl rfl rfl rfl (fun K' hK => ?_)); refine stp ?_; with_reducible refine hK _ _ ?_; clear hK K') | ((first | refine drawK rfl rfl (fun K' hK => ?_) | refine drawKr rfl rfl rfl rfl (fun K' hK => ?_)); refine stp ?_; with_reducible refine hK _ _ _ ?_; clear hK K') | (refine seqKz rfl rfl (fun K' hK => ?_); refine stp ?_; with_reducible refine hK _ ?_; clear hK K') | (refine drawKz rfl rfl (fun K' hK => ?_); refine stp ?_; with_reducible refine hK _ _ ?_; clear hK K'))
    (first | refine seqK rfl rfl (fun K' hK => ?_) | refine seqKr rfl rfl rfl rfl (fun K' hK => ?_)); (conv => whnf); refine ⟨by (try simp only [ByteArray.size_append, szA, List.size_toArray, List.length_cons, List.length_nil, Nat.zero_add, Nat.reduceAdd]); omega, ?_⟩; refine stp ?_; (with_reducible refine hK _ _ ?_); clear hK K'; repeat (first | (with_reducible refine wpKs ?_) | (with_reducible refine wpKb ?_) | (with_reducible refine wpKbn ?_) | (with_reducible refine wpKk ?_) | (refine wpKt rfl ?_) | (refine wpKf rfl ?_) | (with_reducible refine wpKr ?_) | ((with_reducible refine wpKd ?_ ?_); kernel_rfl) | (with_reducible refine wpKn ?_) | (with_reducible refine seqKn ?_) | (with_reducible refine drawKn ?_) | (first | refine seqKs rfl rfl rfl rfl ?_ | refine seqKu rfl rfl rfl rfl ?_ | refine drawKs rfl rfl rfl rfl ?_ | refine drawKu rfl rfl rfl rfl ?_) | ((first | refine seqK rfl rfl (fun K' hK => ?_) | refine seqKr rfl rfl rfl rfl (fun K' hK => ?_)); refine stp ?_; with_reducible refine hK _ _ ?_; clear hK K') | ((first | refine drawK rfl rfl (fun K' hK => ?_) | refine drawKr rfl rfl rfl rfl (fun K' hK => ?_)); refine stp ?_; with_reducible refine hK _ _ _ ?_; clear hK K') | (refine seqKz rfl rfl (fun K' hK => ?_); refine stp ?_; with_reducible refine hK _ ?_; clear hK K') | (refine drawKz rfl rfl (fun K' hK => ?_); refine stp ?_; with_reducible refine hK _ _ ?_; clear hK K'))
    (first | refine seqK rfl rfl (fun K' hK => ?_) | refine seqKr rfl rfl rfl rfl (fun K' hK => ?_)); (conv => whnf); refine useT ((FacesOfS hm)) ?_; (with_reducible refine hK _ _ ?_); clear hK K'; repeat (first | (with_reducible refine wpKs ?_) | (with_reducible refine wpKb ?_) | (with_reducible refine wpKbn ?_) | (with_reducible refine wpKk ?_) | (refine wpKt rfl ?_) | (refine wpKf rfl ?_) | (with_reducible refine wpKr ?_) | ((with_reducible refine wpKd ?_ ?_); kernel_rfl) | (with_reducible refine wpKn ?_) | (with_reducible refine seqKn ?_) | (with_reducible refine drawKn ?_) | (first | refine seqKs rfl rfl rfl rfl ?_ | refine seqKu rfl rfl rfl rfl ?_ | refine drawKs rfl rfl rfl rfl ?_ | refine drawKu rfl rfl rfl rfl ?_) | ((first | refine seqK rfl rfl (fun K' hK => ?_) | refine seqKr rfl rfl rfl rfl (fun K' hK => ?_)); refine stp ?_; with_reducible refine hK _ _ ?_; clear hK K') | ((first | refine drawK rfl rfl (fun K' hK => ?_) | refine drawKr rfl rfl rfl rfl (fun K' hK => ?_)); refine stp ?_; with_reducible refine hK _ _ _ ?_; clear hK K') | (refine seqKz rfl rfl (fun K' hK => ?_); refine stp ?_; with_reducible refine hK _ ?_; clear hK K') | (refine drawKz rfl rfl (fun K' hK => ?_); refine stp ?_; with_reducible refine hK _ _ ?_; clear hK K'))
    (first | refine seqK rfl rfl (fun K' hK => ?_) | refine seqKr rfl rfl rfl rfl (fun K' hK => ?_)); (conv => whnf); refine useT ((FormatIntS (cyc (dualF m)).length (by omega) (by omega)).toT) ?_; (with_reducible refine hK _ _ ?_); clear hK K'; repeat (first | (with_reducible refine wpKs ?_) | (with_reducible refine wpKb ?_) | (with_reducible refine wpKbn ?_) | (with_reducible refine wpKk ?_) | (refine wpKt rfl ?_) | (refine wpKf rfl ?_) | (with_reducible refine wpKr ?_) | ((with_reducible refine wpKd ?_ ?_); kernel_rfl) | (with_reducible refine wpKn ?_) | (with_reducible refine seqKn ?_) | (with_reducible refine drawKn ?_) | (first | refine seqKs rfl rfl rfl rfl ?_ | refine seqKu rfl rfl rfl rfl ?_ | refine drawKs rfl rfl rfl rfl ?_ | refine drawKu rfl rfl rfl rfl ?_) | ((first | refine seqK rfl rfl (fun K' hK => ?_) | refine seqKr rfl rfl rfl rfl (fun K' hK => ?_)); refine stp ?_; with_reducible refine hK _ _ ?_; clear hK K') | ((first | refine drawK rfl rfl (fun K' hK => ?_) | refine drawKr rfl rfl rfl rfl (fun K' hK => ?_)); refine stp ?_; with_reducible refine hK _ _ _ ?_; clear hK K') | (refine seqKz rfl rfl (fun K' hK => ?_); refine stp ?_; with_reducible refine hK _ ?_; clear hK K') | (refine drawKz rfl rfl (fun K' hK => ?_); refine stp ?_; with_reducible refine hK _ _ ?_; clear hK K'))
    (first | refine seqK rfl rfl (fun K' hK => ?_) | refine seqKr rfl rfl rfl rfl (fun K' hK => ?_)); (conv => whnf); refine ⟨by (try simp only [ByteArray.size_append, szA, List.size_toArray, List.length_cons, List.length_nil, Nat.zero_add, Nat.reduceAdd]); omega, ?_⟩; refine stp ?_; (with_reducible refine hK _ _ ?_); clear hK K'; repeat (first | (with_reducible refine wpKs ?_) | (with_reducible refine wpKb ?_) | (with_reducible refine wpKbn ?_) | (with_reducible refine wpKk ?_) | (refine wpKt rfl ?_) | (refine wpKf rfl ?_) | (with_reducible refine wpKr ?_) | ((with_reducible refine wpKd ?_ ?_); kernel_rfl) | (with_reducible refine wpKn ?_) | (with_reducible refine seqKn ?_) | (with_reducible refine drawKn ?_) | (first | refine seqKs rfl rfl rfl rfl ?_ | refine seqKu rfl rfl rfl rfl ?_ | refine drawKs rfl rfl rfl rfl ?_ | refine drawKu rfl rfl rfl rfl ?_) | ((first | refine seqK rfl rfl (fun K' hK => ?_) | refine seqKr rfl rfl rfl rfl (fun K' hK => ?_)); refine stp ?_; with_reducible refine hK _ _ ?_; clear hK K') | ((first | refine drawK rfl rfl (fun K' hK => ?_) | refine drawKr rfl rfl rfl rfl (fun K' hK => ?_)); refine stp ?_; with_reducible refine hK _ _ _ ?_; clear hK K') | (refine seqKz rfl rfl (fun K' hK => ?_); refine stp ?_; with_reducible refine hK _ ?_; clear hK K') | (refine drawKz rfl rfl (fun K' hK => ?_); refine stp ?_; with_reducible refine hK _ _ ?_; clear hK K'))
    (first | refine seqK rfl rfl (fun K' hK => ?_) | refine seqKr rfl rfl rfl rfl (fun K' hK => ?_)); (conv => whnf); refine ⟨by (try simp only [ByteArray.size_append, szA, List.size_toArray, List.length_cons, List.length_nil, Nat.zero_add, Nat.reduceAdd]); omega, ?_⟩; refine stp ?_; (with_reducible refine hK _ _ ?_); clear hK K'; repeat (first | (with_reducible refine wpKs ?_) | (with_reducible refine wpKb ?_) | (with_reducible refine wpKbn ?_) | (with_reducible refine wpKk ?_) | (refine wpKt rfl ?_) | (refine wpKf rfl ?_) | (with_reducible refine wpKr ?_) | ((with_reducible refine wpKd ?_ ?_); kernel_rfl) | (with_reducible refine wpKn ?_) | (with_reducible refine seqKn ?_) | (with_reducible refine drawKn ?_) | (first | refine seqKs rfl rfl rfl rfl ?_ | refine seqKu rfl rfl rfl rfl ?_ | refine drawKs rfl rfl rfl rfl ?_ | refine drawKu rfl rfl rfl rfl ?_) | ((first | refine seqK rfl rfl (fun K' hK => ?_) | refine seqKr rfl rfl rfl rfl (fun K' hK => ?_)); refine stp ?_; with_reducible refine hK _ _ ?_; clear hK K') | ((first | refine drawK rfl rfl (fun K' hK => ?_) | refine drawKr rfl rfl rfl rfl (fun K' hK => ?_)); refine stp ?_; with_reducible refine hK _ _ _ ?_; clear hK K') | (refine seqKz rfl rfl (fun K' hK => ?_); refine stp ?_; with_reducible refine hK _ ?_; clear hK K') | (refine drawKz rfl rfl (fun K' hK => ?_); refine stp ?_; with_reducible refine hK _ _ ?_; clear hK K'))
    (first | refine seqK rfl rfl (fun K' hK => ?_) | refine seqKr rfl rfl rfl rfl (fun K' hK => ?_)); (conv => whnf); refine useT ((MapPartsS hm).toT) ?_; (with_reducible refine hK _ _ ?_); clear hK K'; repeat (first | (with_reducible refine wpKs ?_) | (with_reducible refine wpKb ?_) | (with_reducible refine wpKbn ?_) | (with_reducible refine wpKk ?_) | (refine wpKt rfl ?_) | (refine wpKf rfl ?_) | (with_reducible refine wpKr ?_) | ((with_reducible refine wpKd ?_ ?_); kernel_rfl) | (with_reducible refine wpKn ?_) | (with_reducible refine seqKn ?_) | (with_reducible refine drawKn ?_) | (first | refine seqKs rfl rfl rfl rfl ?_ | refine seqKu rfl rfl rfl rfl ?_ | refine drawKs rfl rfl rfl rfl ?_ | refine drawKu rfl rfl rfl rfl ?_) | ((first | refine seqK rfl rfl (fun K' hK => ?_) | refine seqKr rfl rfl rfl rfl (fun K' hK => ?_)); refine stp ?_; with_reducible refine hK _ _ ?_; clear hK K') | ((first | refine drawK rfl rfl (fun K' hK => ?_) | refine drawKr rfl rfl rfl rfl (fun K' hK => ?_)); refine stp ?_; with_reducible refine hK _ _ _ ?_; clear hK K') | (refine seqKz rfl rfl (fun K' hK => ?_); refine stp ?_; with_reducible refine hK _ ?_; clear hK K') | (refine drawKz rfl rfl (fun K' hK => ?_); refine stp ?_; with_reducible refine hK _ _ ?_; clear hK K'))
    (first | refine seqK rfl rfl (fun K' hK => ?_) | refine seqKr rfl rfl rfl rfl (fun K' hK => ?_)); (conv => whnf); refine useT ((FormatIntS (parM m) (by omega) (by omega)).toT) ?_; (with_reducible refine hK _ _ ?_); clear hK K'; repeat (first | (with_reducible refine wpKs ?_) | (with_reducible refine wpKb ?_) | (with_reducible refine wpKbn ?_) | (with_reducible refine wpKk ?_) | (refine wpKt rfl ?_) | (refine wpKf rfl ?_) | (with_reducible refine wpKr ?_) | ((with_reducible refine wpKd ?_ ?_); kernel_rfl) | (with_reducible refine wpKn ?_) | (with_reducible refine seqKn ?_) | (with_reducible refine drawKn ?_) | (first | refine seqKs rfl rfl rfl rfl ?_ | refine seqKu rfl rfl rfl rfl ?_ | refine drawKs rfl rfl rfl rfl ?_ | refine drawKu rfl rfl rfl rfl ?_) | ((first | refine seqK rfl rfl (fun K' hK => ?_) | refine seqKr rfl rfl rfl rfl (fun K' hK => ?_)); refine stp ?_; with_reducible refine hK _ _ ?_; clear hK K') | ((first | refine drawK rfl rfl (fun K' hK => ?_) | refine drawKr rfl rfl rfl rfl (fun K' hK => ?_)); refine stp ?_; with_reducible refine hK _ _ _ ?_; clear hK K') | (refine seqKz rfl rfl (fun K' hK => ?_); refine stp ?_; with_reducible refine hK _ ?_; clear hK K') | (refine drawKz rfl rfl (fun K' hK => ?_); refine stp ?_; with_reducible refine hK _ _ ?_; clear hK K'))
    (first | refine seqK rfl rfl (fun K' hK => ?_) | refine seqKr rfl rfl rfl rfl (fun K' hK => ?_)); (conv => whnf); refine ⟨by (try simp only [ByteArray.size_append, szA, List.size_toArray, List.length_cons, List.length_nil, Nat.zero_add, Nat.reduceAdd]); omega, ?_⟩; refine stp ?_; (with_reducible refine hK _ _ ?_); clear hK K'; repeat (first | (with_reducible refine wpKs ?_) | (with_reducible refine wpKb ?_) | (with_reducible refine wpKbn ?_) | (with_reducible refine wpKk ?_) | (refine wpKt rfl ?_) | (refine wpKf rfl ?_) | (with_reducible refine wpKr ?_) | ((with_reducible refine wpKd ?_ ?_); kernel_rfl) | (with_reducible refine wpKn ?_) | (with_reducible refine seqKn ?_) | (with_reducible refine drawKn ?_) | (first | refine seqKs rfl rfl rfl rfl ?_ | refine seqKu rfl rfl rfl rfl ?_ | refine drawKs rfl rfl rfl rfl ?_ | refine drawKu rfl rfl rfl rfl ?_) | ((first | refine seqK rfl rfl (fun K' hK => ?_) | refine seqKr rfl rfl rfl rfl (fun K' hK => ?_)); refine stp ?_; with_reducible refine hK _ _ ?_; clear hK K') | ((first | refine drawK rfl rfl (fun K' hK => ?_) | refine drawKr rfl rfl rfl rfl (fun K' hK => ?_)); refine stp ?_; with_reducible refine hK _ _ _ ?_; clear hK K') | (refine seqKz rfl rfl (fun K' hK => ?_); refine stp ?_; with_reducible refine hK _ ?_; clear hK K') | (refine drawKz rfl rfl (fun K' hK => ?_); refine stp ?_; with_reducible refine hK _ _ ?_; clear hK K'))
    (first | refine seqK rfl rfl (fun K' hK => ?_) | refine seqKr rfl rfl rfl rfl (fun K' hK => ?_)); (conv => whnf); refine ⟨by (try simp only [ByteArray.size_append, szA, List.size_toArray, List.length_cons, List.length_nil, Nat.zero_add, Nat.reduceAdd]); omega, ?_⟩; refine stp ?_; (with_reducible refine hK _ _ ?_); clear hK K'; repeat (first | (with_reducible refine wpKs ?_) | (with_reducible refine wpKb ?_) | (with_reducible refine wpKbn ?_) | (with_reducible refine wpKk ?_) | (refine wpKt rfl ?_) | (refine wpKf rfl ?_) | (with_reducible refine wpKr ?_) | ((with_reducible refine wpKd ?_ ?_); kernel_rfl) | (with_reducible refine wpKn ?_) | (with_reducible refine seqKn ?_) | (with_reducible refine drawKn ?_) | (first | refine seqKs rfl rfl rfl rfl ?_ | refine seqKu rfl rfl rfl rfl ?_ | refine drawKs rfl rfl rfl rfl ?_ | refine drawKu rfl rfl rfl rfl ?_) | ((first | refine seqK rfl rfl (fun K' hK => ?_) | refine seqKr rfl rfl rfl rfl (fun K' hK => ?_)); refine stp ?_; with_reducible refine hK _ _ ?_; clear hK K') | ((first | refine drawK rfl rfl (fun K' hK => ?_) | refine drawKr rfl rfl rfl rfl (fun K' hK => ?_)); refine stp ?_; with_reducible refine hK _ _ _ ?_; clear hK K') | (refine seqKz rfl rfl (fun K' hK => ?_); refine stp ?_; with_reducible refine hK _ ?_; clear hK K') | (refine drawKz rfl rfl (fun K' hK => ?_); refine stp ?_; with_reducible refine hK _ _ ?_; clear hK K'))
    (first | refine seqK rfl rfl (fun K' hK => ?_) | refine seqKr rfl rfl rfl rfl (fun K' hK => ?_)); (conv => whnf); refine useT ((GenusOfS hm).toT) ?_; (with_reducible refine hK _ _ ?_); clear hK K'; repeat (first | (with_reducible refine wpKs ?_) | (with_reducible refine wpKb ?_) | (with_reducible refine wpKbn ?_) | (with_reducible refine wpKk ?_) | (refine wpKt rfl ?_) | (refine wpKf rfl ?_) | (with_reducible refine wpKr ?_) | ((with_reducible refine wpKd ?_ ?_); kernel_rfl) | (with_reducible refine wpKn ?_) | (with_reducible refine seqKn ?_) | (with_reducible refine drawKn ?_) | (first | refine seqKs rfl rfl rfl rfl ?_ | refine seqKu rfl rfl rfl rfl ?_ | refine drawKs rfl rfl rfl rfl ?_ | refine drawKu rfl rfl rfl rfl ?_) | ((first | refine seqK rfl rfl (fun K' hK => ?_) | refine seqKr rfl rfl rfl rfl (fun K' hK => ?_)); refine stp ?_; with_reducible refine hK _ _ ?_; clear hK K') | ((first | refine drawK rfl rfl (fun K' hK => ?_) | refine drawKr rfl rfl rfl rfl (fun K' hK => ?_)); refine stp ?_; with_reducible refine hK _ _ _ ?_; clear hK K') | (refine seqKz rfl rfl (fun K' hK => ?_); refine stp ?_; with_reducible refine hK _ ?_; clear hK K') | (refine drawKz rfl rfl (fun K' hK => ?_); refine stp ?_; with_reducible refine hK _ _ ?_; clear hK K'))
    (first | refine seqK rfl rfl (fun K' hK => ?_) | refine seqKr rfl rfl rfl rfl (fun K' hK => ?_)); (conv => whnf); refine useT ((FormatIntS (genM m) (by omega) (by omega)).toT) ?_; (with_reducible refine hK _ _ ?_); clear hK K'; repeat (first | (with_reducible refine wpKs ?_) | (with_reducible refine wpKb ?_) | (with_reducible refine wpKbn ?_) | (with_reducible refine wpKk ?_) | (refine wpKt rfl ?_) | (refine wpKf rfl ?_) | (with_reducible refine wpKr ?_) | ((with_reducible refine wpKd ?_ ?_); kernel_rfl) | (with_reducible refine wpKn ?_) | (with_reducible refine seqKn ?_) | (with_reducible refine drawKn ?_) | (first | refine seqKs rfl rfl rfl rfl ?_ | refine seqKu rfl rfl rfl rfl ?_ | refine drawKs rfl rfl rfl rfl ?_ | refine drawKu rfl rfl rfl rfl ?_) | ((first | refine seqK rfl rfl (fun K' hK => ?_) | refine seqKr rfl rfl rfl rfl (fun K' hK => ?_)); refine stp ?_; with_reducible refine hK _ _ ?_; clear hK K') | ((first | refine drawK rfl rfl (fun K' hK => ?_) | refine drawKr rfl rfl rfl rfl (fun K' hK => ?_)); refine stp ?_; with_reducible refine hK _ _ _ ?_; clear hK K') | (refine seqKz rfl rfl (fun K' hK => ?_); refine stp ?_; with_reducible refine hK _ ?_; clear hK K') | (refine drawKz rfl rfl (fun K' hK => ?_); refine stp ?_; with_reducible refine hK _ _ ?_; clear hK K'))
    (first | refine seqK rfl rfl (fun K' hK => ?_) | refine seqKr rfl rfl rfl rfl (fun K' hK => ?_)); (conv => whnf); refine ⟨by (try simp only [ByteArray.size_append, szA, List.size_toArray, List.length_cons, List.length_nil, Nat.zero_add, Nat.reduceAdd]); omega, ?_⟩; refine stp ?_; (with_reducible refine hK _ _ ?_); clear hK K'; repeat (first | (with_reducible refine wpKs ?_) | (with_reducible refine wpKb ?_) | (with_reducible refine wpKbn ?_) | (with_reducible refine wpKk ?_) | (refine wpKt rfl ?_) | (refine wpKf rfl ?_) | (with_reducible refine wpKr ?_) | ((with_reducible refine wpKd ?_ ?_); kernel_rfl) | (with_reducible refine wpKn ?_) | (with_reducible refine seqKn ?_) | (with_reducible refine drawKn ?_) | (first | refine seqKs rfl rfl rfl rfl ?_ | refine seqKu rfl rfl rfl rfl ?_ | refine drawKs rfl rfl rfl rfl ?_ | refine drawKu rfl rfl rfl rfl ?_) | ((first | refine seqK rfl rfl (fun K' hK => ?_) | refine seqKr rfl rfl rfl rfl (fun K' hK => ?_)); refine stp ?_; with_reducible refine hK _ _ ?_; clear hK K') | ((first | refine drawK rfl rfl (fun K' hK => ?_) | refine drawKr rfl rfl rfl rfl (fun K' hK => ?_)); refine stp ?_; with_reducible refine hK _ _ _ ?_; clear hK K') | (refine seqKz rfl rfl (fun K' hK => ?_); refine stp ?_; with_reducible refine hK _ ?_; clear hK K') | (refine drawKz rfl rfl (fun K' hK => ?_); refine stp ?_; with_reducible refine hK _ _ ?_; clear hK K'))
    (first | refine seqK rfl rfl (fun K' hK => ?_) | refine seqKr rfl rfl rfl rfl (fun K' hK => ?_)); (conv => whnf); refine ⟨by (try simp only [ByteArray.size_append, szA, List.size_toArray, List.length_cons, List.length_nil, Nat.zero_add, Nat.reduceAdd]); omega, ?_⟩; refine stp ?_; (with_reducible refine hK _ _ ?_); clear hK K'; repeat (first | (with_reducible refine wpKs ?_) | (with_reducible refine wpKb ?_) | (with_reducible refine wpKbn ?_) | (with_reducible refine wpKk ?_) | (refine wpKt rfl ?_) | (refine wpKf rfl ?_) | (with_reducible refine wpKr ?_) | ((with_reducible refine wpKd ?_ ?_); kernel_rfl) | (with_reducible refine wpKn ?_) | (with_reducible refine seqKn ?_) | (with_reducible refine drawKn ?_) | (first | refine seqKs rfl rfl rfl rfl ?_ | refine seqKu rfl rfl rfl rfl ?_ | refine drawKs rfl rfl rfl rfl ?_ | refine drawKu rfl rfl rfl rfl ?_) | ((first | refine seqK rfl rfl (fun K' hK => ?_) | refine seqKr rfl rfl rfl rfl (fun K' hK => ?_)); refine stp ?_; with_reducible refine hK _ _ ?_; clear hK K') | ((first | refine drawK rfl rfl (fun K' hK => ?_) | refine drawKr rfl rfl rfl rfl (fun K' hK => ?_)); refine stp ?_; with_reducible refine hK _ _ _ ?_; clear hK K') | (refine seqKz rfl rfl (fun K' hK => ?_); refine stp ?_; with_reducible refine hK _ ?_; clear hK K') | (refine drawKz rfl rfl (fun K' hK => ?_); refine stp ?_; with_reducible refine hK _ _ ?_; clear hK K'))
    (first | refine seqK rfl rfl (fun K' hK => ?_) | refine seqKr rfl rfl rfl rfl (fun K' hK => ?_)); (conv => whnf); refine useT ((FewestColoursS m hl).toT) ?_; (with_reducible refine hK _ _ ?_); clear hK K'; repeat (first | (with_reducible refine wpKs ?_) | (with_reducible refine wpKb ?_) | (with_reducible refine wpKbn ?_) | (with_reducible refine wpKk ?_) | (refine wpKt rfl ?_) | (refine wpKf rfl ?_) | (with_reducible refine wpKr ?_) | ((with_reducible refine wpKd ?_ ?_); kernel_rfl) | (with_reducible refine wpKn ?_) | (with_reducible refine seqKn ?_) | (with_reducible refine drawKn ?_) | (first | refine seqKs rfl rfl rfl rfl ?_ | refine seqKu rfl rfl rfl rfl ?_ | refine drawKs rfl rfl rfl rfl ?_ | refine drawKu rfl rfl rfl rfl ?_) | ((first | refine seqK rfl rfl (fun K' hK => ?_) | refine seqKr rfl rfl rfl rfl (fun K' hK => ?_)); refine stp ?_; with_reducible refine hK _ _ ?_; clear hK K') | ((first | refine drawK rfl rfl (fun K' hK => ?_) | refine drawKr rfl rfl rfl rfl (fun K' hK => ?_)); refine stp ?_; with_reducible refine hK _ _ _ ?_; clear hK K') | (refine seqKz rfl rfl (fun K' hK => ?_); refine stp ?_; with_reducible refine hK _ ?_; clear hK K') | (refine drawKz rfl rfl (fun K' hK => ?_); refine stp ?_; with_reducible refine hK _ _ ?_; clear hK K'))
    (first | refine seqK rfl rfl (fun K' hK => ?_) | refine seqKr rfl rfl rfl rfl (fun K' hK => ?_)); (conv => whnf); refine useT ((FormatIntS (few m) (by omega) (by omega)).toT) ?_; (with_reducible refine hK _ _ ?_); clear hK K'; repeat (first | (with_reducible refine wpKs ?_) | (with_reducible refine wpKb ?_) | (with_reducible refine wpKbn ?_) | (with_reducible refine wpKk ?_) | (refine wpKt rfl ?_) | (refine wpKf rfl ?_) | (with_reducible refine wpKr ?_) | ((with_reducible refine wpKd ?_ ?_); kernel_rfl) | (with_reducible refine wpKn ?_) | (with_reducible refine seqKn ?_) | (with_reducible refine drawKn ?_) | (first | refine seqKs rfl rfl rfl rfl ?_ | refine seqKu rfl rfl rfl rfl ?_ | refine drawKs rfl rfl rfl rfl ?_ | refine drawKu rfl rfl rfl rfl ?_) | ((first | refine seqK rfl rfl (fun K' hK => ?_) | refine seqKr rfl rfl rfl rfl (fun K' hK => ?_)); refine stp ?_; with_reducible refine hK _ _ ?_; clear hK K') | ((first | refine drawK rfl rfl (fun K' hK => ?_) | refine drawKr rfl rfl rfl rfl (fun K' hK => ?_)); refine stp ?_; with_reducible refine hK _ _ _ ?_; clear hK K') | (refine seqKz rfl rfl (fun K' hK => ?_); refine stp ?_; with_reducible refine hK _ ?_; clear hK K') | (refine drawKz rfl rfl (fun K' hK => ?_); refine stp ?_; with_reducible refine hK _ _ ?_; clear hK K'))
    (first | refine seqK rfl rfl (fun K' hK => ?_) | refine seqKr rfl rfl rfl rfl (fun K' hK => ?_)); (conv => whnf); refine ⟨by (try simp only [ByteArray.size_append, szA, List.size_toArray, List.length_cons, List.length_nil, Nat.zero_add, Nat.reduceAdd]); omega, ?_⟩; refine stp ?_; (with_reducible refine hK _ _ ?_); clear hK K'; repeat (first | (with_reducible refine wpKs ?_) | (with_reducible refine wpKb ?_) | (with_reducible refine wpKbn ?_) | (with_reducible refine wpKk ?_) | (refine wpKt rfl ?_) | (refine wpKf rfl ?_) | (with_reducible refine wpKr ?_) | ((with_reducible refine wpKd ?_ ?_); kernel_rfl) | (with_reducible refine wpKn ?_) | (with_reducible refine seqKn ?_) | (with_reducible refine drawKn ?_) | (first | refine seqKs rfl rfl rfl rfl ?_ | refine seqKu rfl rfl rfl rfl ?_ | refine drawKs rfl rfl rfl rfl ?_ | refine drawKu rfl rfl rfl rfl ?_) | ((first | refine seqK rfl rfl (fun K' hK => ?_) | refine seqKr rfl rfl rfl rfl (fun K' hK => ?_)); refine stp ?_; with_reducible refine hK _ _ ?_; clear hK K') | ((first | refine drawK rfl rfl (fun K' hK => ?_) | refine drawKr rfl rfl rfl rfl (fun K' hK => ?_)); refine stp ?_; with_reducible refine hK _ _ _ ?_; clear hK K') | (refine seqKz rfl rfl (fun K' hK => ?_); refine stp ?_; with_reducible refine hK _ ?_; clear hK K') | (refine drawKz rfl rfl (fun K' hK => ?_); refine stp ?_; with_reducible refine hK _ _ ?_; clear hK K'))
    refine stp ?_; try with_reducible exact True.intro
    rfl
theorem FnExactDescribeMap (w : List Int) (hn : (w.length : Int) ≤ 140737488355328) : ConS Tryd.prog 4 [.il w] (.b true) := by
  refine conS_of hmix hTab Tryd.func4 rfl rfl (by kernel_rfl) (by show 1 ≤ Tryd.f4.ntmps; decide) rfl ?_
  refine stp ?_; try with_reducible exact True.intro
  refine Br.mk (fun hz => ?_) (fun hz => ?_) <;> simp [-Int.ofNat_toNat] at hz
  · refine stp ?_; try with_reducible exact True.intro
  refine stp ?_; try with_reducible exact True.intro
  refine useT (toIntS w (by omega)) ?_; try with_reducible exact True.intro
  refine useT ((DescribeMapS w (by omega)).toT) ?_; try with_reducible exact True.intro
  refine useT (toIntS w (by omega)) ?_; try with_reducible exact True.intro
  refine useT ((DescribeMapI w (by omega)).toT) ?_; try with_reducible exact True.intro
  rw [show (!(dmpM w).toList == (dmpM w).toList) = false by simp]
  refine stp ?_; try with_reducible exact True.intro
  refine useT (toIntS w (by omega)) ?_; try with_reducible exact True.intro
  refine useT ((eqIntS w w (by omega)).toT) ?_; try with_reducible exact True.intro
  rw [decide_eq_true rfl]
  refine stp ?_; try with_reducible exact True.intro
end Go.Proofs.YtffiddkignmobaaDoorTv
end
