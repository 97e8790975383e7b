/- What functions of the program give: each contract holds for all arguments that its own sentence names. -/
import Derived.Test.YtffiddkignmobaaDoorFnFnExactDescribeWord2
import Derived.Shelf.Strings.OnBuilder
import Derived.Shelf.LaysM
import Derived.Shelf.Strconv.Itoa3
import Derived.Lib.ItoaLen
set_option linter.unusedVariables false
set_option linter.unusedSimpArgs false
section
open Go Go.Proofs.YtffiddkignmobaaDoorVe Go.Proofs.YtffiddkignmobaaDoorTv Go.Proofs
namespace Go.Proofs.YtffiddkignmobaaDoorTv
set_option maxRecDepth 8000
set_option maxHeartbeats 2000000
def kId : ByteArray := ⟨#[105, 100, 101, 110, 116, 105, 116, 121]⟩
def kPe : ByteArray := ⟨#[112, 101, 114, 105, 111, 100, 105, 99]⟩
def kTw : ByteArray := ⟨#[116, 119, 105, 115, 116]⟩
def kSt : ByteArray := ⟨#[115, 116, 114, 101, 116, 99, 104]⟩
def trM (m : Mx) : Int := m.1 + m.2.2.2
def kinM (m : Mx) : ByteArray := if isM m = false then ⟨#[]⟩ else if m.2.1 = 0 ∧ m.2.2.1 = 0 then kId else if -1 ≤ trM m ∧ trM m ≤ 1 then kPe else if trM m = 2 ∨ trM m = -2 then kTw else kSt
theorem oneI : ConS Tryd.prog 112 [] (mxV (1, 0, 0, 1)) := by
  refine conS_of hmix hTab Tryd.func112 rfl rfl (by kernel_rfl) (by show 0 ≤ Tryd.f112.ntmps; decide) rfl ?_
  refine stp ?_; try with_reducible exact True.intro
  rfl
theorem unit_eq {a d : Int} (h : a * d = 1) : (a = 1 ∧ d = 1) ∨ (a = -1 ∧ d = -1) := by
  have h1 : a.natAbs * d.natAbs = 1 := by rw [← Int.natAbs_mul, h]; rfl
  have h2 := Nat.eq_one_of_mul_eq_one_right h1
  have h3 := Nat.eq_one_of_mul_eq_one_left h1
  rcases (show a = 1 ∨ a = -1 by omega) with rfl | rfl
  · left; omega
  · right; omega
theorem mxE {a b c d x y z w : Int} : (a == x && (b == y && (c == z && (d == w && true)))) = decide (a = x ∧ b = y ∧ c = z ∧ d = w) := by
  rw [Bool.eq_iff_iff]; simp
theorem isId {a b c d : Int} (hdet : a * d - b * c = 1) : (b = 0 ∧ c = 0) ↔ (a = 1 ∧ b = 0 ∧ c = 0 ∧ d = 1) ∨ (a = -1 ∧ b = 0 ∧ c = 0 ∧ d = -1) := by
  constructor
  · rintro ⟨rfl, rfl⟩
    rcases unit_eq (show a * d = 1 by omega) with ⟨rfl, rfl⟩ | ⟨rfl, rfl⟩
    · exact .inl ⟨rfl, rfl, rfl, rfl⟩
    · exact .inr ⟨rfl, rfl, rfl, rfl⟩
  · rintro (⟨_, h1, h2, _⟩ | ⟨_, h1, h2, _⟩) <;> exact ⟨h1, h2⟩
theorem KindOfI (m : Mx) : ConS Tryd.prog 40 [mxV m] (.s (kinM m)) := by
  obtain ⟨a, b, c, d⟩ := m
  have w := IsMatrixI (a, b, c, d)
  unfold kinM trM
  refine conS_of hmix hTab Tryd.func40 rfl rfl (by kernel_rfl) (by show 1 ≤ Tryd.f40.ntmps; decide) rfl ?_
  dsimp only [mxV] at w ⊢
  cases hm : isM (a, b, c, d) with
  | false =>
    rw [hm] at w
    refine stp ?_; try with_reducible exact True.intro
    refine OrW.wrap ?_
    refine stp ?_; try with_reducible exact True.intro
    refine useT w.toT ?_ ⟨⟨rfl, rfl, rfl, rfl, trivial⟩, trivial⟩
    refine stp ?_; try with_reducible exact True.intro
    rfl
  | true =>
    obtain ⟨⟨ha, hb, hc, hd⟩, hdet⟩ := isM_iff.1 hm
    have w1 := within (a + d) (-1) 1
    have hid := isId hdet
    rw [hm] at w
    rw [if_neg (by decide)]
    refine stp ?_; try with_reducible exact True.intro
    refine useT w.toT ?_ ⟨⟨rfl, rfl, rfl, rfl, trivial⟩, trivial⟩
    refine stp ?_; try with_reducible exact True.intro
    refine .inl ⟨_, _, oneI, by repeat (first | exact trivial | refine ⟨by first | exact rfl | exact trivial | exact ⟨_, rfl, rfl⟩ | exact ⟨_, _, rfl, by first | (simp; done) | (simp; omega), by first | (simp; done) | (simp [List.take_of_length_le]; done) | (rw [List.drop_zero]; exact List.take_of_length_le (by first | omega | (simp; omega))) | (simp [List.take_of_length_le]; omega)⟩ | exact ⟨_, rfl, by first | (simp; done) | (simp; omega), by first | (simp; done) | (simp [List.take_of_length_le]; done) | (rw [List.drop_zero]; exact List.take_of_length_le (by first | omega | (simp; omega))) | (simp [List.take_of_length_le]; omega)⟩, ?_⟩), ?_⟩; refine stp ?_; try with_reducible exact True.intro
    rw [mxE]
    refine Br.mk (fun h1 => ?_) (fun h1 => ?_) <;> simp [-Int.ofNat_toNat] at h1
    · rw [if_pos (hid.2 (.inl h1))]
      refine stp ?_; try with_reducible exact True.intro
      rfl
    · refine stp ?_; try with_reducible exact True.intro
      rw [mxE]
      refine Br.mk (fun h2 => ?_) (fun h2 => ?_) <;> simp [-Int.ofNat_toNat] at h2
      · rw [if_pos (hid.2 (.inr h2))]
        refine stp ?_; try with_reducible exact True.intro
        rfl
      · rw [if_neg (fun h => (hid.1 h).elim (fun k => h1 k.1 k.2.1 k.2.2.1 k.2.2.2) (fun k => h2 k.1 k.2.1 k.2.2.1 k.2.2.2))]
        refine stp ?_; try with_reducible exact True.intro
        refine useT (w1.toT) ?_; try with_reducible exact True.intro
        refine Br.mk (fun h3 => ?_) (fun h3 => ?_) <;> simp [-Int.ofNat_toNat] at h3
        · rw [if_pos (by omega)]
          refine stp ?_; try with_reducible exact True.intro
          rfl
        · rw [if_neg (by omega)]
          refine stp ?_; try with_reducible exact True.intro
          refine Br.mk (fun h4 => ?_) (fun h4 => ?_) <;> simp [-Int.ofNat_toNat] at h4
          · rw [if_pos (by omega)]
            refine stp ?_; try with_reducible exact True.intro
            rfl
          · refine stp ?_; try with_reducible exact True.intro
            refine Br.mk (fun h5 => ?_) (fun h5 => ?_) <;> simp [-Int.ofNat_toNat] at h5
            · rw [if_pos (by omega)]
              refine stp ?_; try with_reducible exact True.intro
              rfl
            · rw [if_neg (by omega)]
              refine stp ?_; try with_reducible exact True.intro
              rfl
theorem KindOfS (m : Mx) : ConS Tryd.prog 32 [mxV m] (.s (kinM m)) := by
  obtain ⟨a, b, c, d⟩ := m
  have w := IsMatrixS (a, b, c, d)
  unfold kinM trM
  refine conS_of hmix hTab Tryd.func32 rfl rfl (by kernel_rfl) (by show 1 ≤ Tryd.f32.ntmps; decide) rfl ?_
  dsimp only [mxV] at w ⊢
  cases hm : isM (a, b, c, d) with
  | false =>
    rw [hm] at w
    refine stp ?_; try with_reducible exact True.intro
    refine useT w.toT ?_ ⟨⟨rfl, rfl, rfl, rfl, trivial⟩, trivial⟩
    refine stp ?_; try with_reducible exact True.intro
    rfl
  | true =>
    obtain ⟨⟨ha, hb, hc, hd⟩, hdet⟩ := isM_iff.1 hm
    have w1 := l1In (a + d) (-1) 1
    have w2 := l1In (a + d) (-2) 2
    rw [hm] at w
    rw [if_neg (by decide)]
    refine stp ?_; try with_reducible exact True.intro
    refine useT w.toT ?_ ⟨⟨rfl, rfl, rfl, rfl, trivial⟩, trivial⟩
    refine stp ?_; try with_reducible exact True.intro
    refine Br.mk (fun h1 => ?_) (fun h1 => ?_) <;> simp [-Int.ofNat_toNat] at h1
    · refine stp ?_; try with_reducible exact True.intro
      refine Br.mk (fun h2 => ?_) (fun h2 => ?_) <;> simp [-Int.ofNat_toNat] at h2
      · rw [if_pos ⟨h1, h2⟩]
        refine stp ?_; try with_reducible exact True.intro
        rfl
      · rw [if_neg (fun h => h2 h.2)]
        refine stp ?_; try with_reducible exact True.intro
        refine useT (w1.toT) ?_; try with_reducible exact True.intro
        refine Br.mk (fun h3 => ?_) (fun h3 => ?_) <;> simp [-Int.ofNat_toNat] at h3
        · rw [if_pos (by omega)]
          refine stp ?_; try with_reducible exact True.intro
          rfl
        · rw [if_neg (by omega)]
          refine stp ?_; try with_reducible exact True.intro
          refine useT (w2.toT) ?_; try with_reducible exact True.intro
          refine Br.mk (fun h4 => ?_) (fun h4 => ?_) <;> simp [-Int.ofNat_toNat] at h4
          · rw [if_pos (by omega)]
            refine stp ?_; try with_reducible exact True.intro
            rfl
          · rw [if_neg (by omega)]
            refine stp ?_; try with_reducible exact True.intro
            rfl
    · rw [if_neg (fun h => h1 h.1)]
      refine stp ?_; try with_reducible exact True.intro
      refine useT (w1.toT) ?_; try with_reducible exact True.intro
      refine Br.mk (fun h3 => ?_) (fun h3 => ?_) <;> simp [-Int.ofNat_toNat] at h3
      · rw [if_pos (by omega)]
        refine stp ?_; try with_reducible exact True.intro
        rfl
      · rw [if_neg (by omega)]
        refine stp ?_; try with_reducible exact True.intro
        refine useT (w2.toT) ?_; try with_reducible exact True.intro
        refine Br.mk (fun h4 => ?_) (fun h4 => ?_) <;> simp [-Int.ofNat_toNat] at h4
        · rw [if_pos (by omega)]
          refine stp ?_; try with_reducible exact True.intro
          rfl
        · rw [if_neg (by omega)]
          refine stp ?_; try with_reducible exact True.intro
          rfl
theorem TraceOfI (m : Mx) : ConS Tryd.prog 39 [mxV m] (.i (if isM m = true then trM m else 0)) := by
  obtain ⟨a, b, c, d⟩ := m
  have w := IsMatrixI (a, b, c, d)
  unfold trM
  refine conS_of hmix hTab Tryd.func39 rfl rfl (by kernel_rfl) (by show 1 ≤ Tryd.f39.ntmps; decide) rfl ?_
  dsimp only [mxV] at w ⊢
  cases hm : isM (a, b, c, d) with
  | false =>
    rw [hm] at w
    refine stp ?_; try with_reducible exact True.intro
    refine useT w.toT ?_ ⟨⟨rfl, rfl, rfl, rfl, trivial⟩, trivial⟩
    refine stp ?_; try with_reducible exact True.intro
    rfl
  | true =>
    obtain ⟨⟨ha, hb, hc, hd⟩, hdet⟩ := isM_iff.1 hm
    rw [hm] at w
    refine stp ?_; try with_reducible exact True.intro
    refine useT w.toT ?_ ⟨⟨rfl, rfl, rfl, rfl, trivial⟩, trivial⟩
    refine stp ?_; try with_reducible exact True.intro
    rfl
theorem TraceOfS (m : Mx) : ConS Tryd.prog 31 [mxV m] (.i (if isM m = true then trM m else 0)) := by
  obtain ⟨a, b, c, d⟩ := m
  have w := IsMatrixS (a, b, c, d)
  unfold trM
  refine conS_of hmix hTab Tryd.func31 rfl rfl (by kernel_rfl) (by show 1 ≤ Tryd.f31.ntmps; decide) rfl ?_
  dsimp only [mxV] at w ⊢
  cases hm : isM (a, b, c, d) with
  | false =>
    rw [hm] at w
    refine stp ?_; try with_reducible exact True.intro
    refine useT w.toT ?_ ⟨⟨rfl, rfl, rfl, rfl, trivial⟩, trivial⟩
    refine stp ?_; try with_reducible exact True.intro
    rfl
  | true =>
    obtain ⟨⟨ha, hb, hc, hd⟩, hdet⟩ := isM_iff.1 hm
    rw [hm] at w
    refine stp ?_; try with_reducible exact True.intro
    refine useT w.toT ?_ ⟨⟨rfl, rfl, rfl, rfl, trivial⟩, trivial⟩
    refine stp ?_; try with_reducible exact True.intro
    rfl
end Go.Proofs.YtffiddkignmobaaDoorTv
end
section
namespace Go.Proofs
open Go.Shelf
def Tryd.lays156_ren : Go.Shelf.Ren := ⟨fun | 156 => 110 | 165 => 207 | 166 => 208 | 169 => 209 | 240 => 238 | 241 => 239 | 276 => 245 | 277 => 246 | n => n, fun | 31 => 52 | 9 => 9 | 3 => 3 | 4 => 4 | 0 => 0 | 20 => 20 | 72 => 124 | 76 => 128 | 70 => 122 | 37 => 77 | 75 => 127 | 127 => 140 | 164 => 142 | 5 => 5 | 80 => 130 | n => n, fun | n => n⟩
theorem Tryd.lays156 : Go.Proofs.Lays.n156 Tryd.prog Tryd.lays156_ren := {
  mixed := by kernel_rfl
  f156 := Tryd.func110.trans (congrArg some (by kernel_rfl))
  f165 := Tryd.func207.trans (congrArg some (by kernel_rfl))
  f166 := Tryd.func208.trans (congrArg some (by kernel_rfl))
  f169 := Tryd.func209.trans (congrArg some (by kernel_rfl))
  f240 := Tryd.func238.trans (congrArg some (by kernel_rfl))
  f241 := Tryd.func239.trans (congrArg some (by kernel_rfl))
  f276 := Tryd.func245.trans (congrArg some (by kernel_rfl))
  f277 := Tryd.func246.trans (congrArg some (by kernel_rfl))
  t0 := Tryd.underlying0
  a0 := Tryd.isAgg0
  z0 := Tryd.sizeOf0
  v0 := Tryd.zeroValue0
  t3 := Tryd.underlying3
  a3 := Tryd.isAgg3
  z3 := Tryd.sizeOf3
  v3 := Tryd.zeroValue3
  t4 := Tryd.underlying4
  a4 := Tryd.isAgg4
  z4 := Tryd.sizeOf4
  v4 := Tryd.zeroValue4
  t9 := Tryd.underlying9
  a9 := Tryd.isAgg9
  z9 := Tryd.sizeOf9
  v9 := Tryd.zeroValue9
  t20 := Tryd.underlying20
  a20 := Tryd.isAgg20
  z20 := Tryd.sizeOf20
  v20 := Tryd.zeroValue20
  t31 := Tryd.underlying52
  a31 := Tryd.isAgg52
  z31 := Tryd.sizeOf52
  v31 := Tryd.zeroValue52
  t37 := Tryd.underlying77
  a37 := Tryd.isAgg77
  z37 := Tryd.sizeOf77
  v37 := Tryd.zeroValue77
  t70 := Tryd.underlying122
  a70 := Tryd.isAgg122
  z70 := Tryd.sizeOf122
  v70 := Tryd.zeroValue122
  t72 := Tryd.underlying124
  a72 := Tryd.isAgg124
  z72 := Tryd.sizeOf124
  v72 := Tryd.zeroValue124
  t75 := Tryd.underlying127
  a75 := Tryd.isAgg127
  z75 := Tryd.sizeOf127
  v75 := Tryd.zeroValue127
  t76 := Tryd.underlying128
  a76 := Tryd.isAgg128
  z76 := Tryd.sizeOf128
  v76 := Tryd.zeroValue128
  t127 := Tryd.underlying140
  a127 := Tryd.isAgg140
  z127 := Tryd.sizeOf140
  v127 := Tryd.zeroValue140
  t164 := Tryd.underlying142
  a164 := Tryd.isAgg142
  z164 := Tryd.sizeOf142
  v164 := Tryd.zeroValue142 }
theorem Tryd.Builder_Extra_156 : Builder.Extra Tryd.prog Tryd.lays156_ren := {
  sizeBuilder := by kernel_rfl
  liesBuilder := by kernel_rfl
  t5 := Tryd.underlying5
  a5 := Tryd.isAgg5
  z5 := Tryd.sizeOf5
  v5 := Tryd.zeroValue5
  infoByte := by kernel_rfl
  cellsByte := by kernel_rfl
  sizeByte := by kernel_rfl
  neB5 := by decide }
open Go.RowKit in
/-- No element: the empty string; the world is as it was. (Whatever the slice's address and capacity: a nil slice too.) (LAID: no walk: one application.) -/
theorem Tryd.strings_Join_none (a : Option Addr) (c : Nat) (sep : ByteArray) (w : World) :
    Calls Tryd.prog 110 #[.slice a 0 c, .string sep] w fun e w' => e = .returned (.string ⟨#[]⟩) ∧ w' = w := Any.strings_Join_none Tryd.lays156 Tryd.Builder_Extra_156 a c sep w
open Go.RowKit in
/-- strings.Join: "Join concatenates the elements of its first argument to create a single string. The separator string sep is placed between elements in the resulting string.": HOWEVER MANY ELEMENTS. Below the heap's end the world is as it was. (LAID: no walk: one application.) -/
theorem Tryd.strings_Join (bk o c : Nat) (xs : List ByteArray) (sep : ByteArray) (w : World) (hcells : ∀ (j : Nat) x, xs[j]? = some x → w.cell? ⟨bk, o + j, none⟩ = some (.string x)) (hbk : bk < w.heap.size) (hN : xs.length ≤ 140737488355328) (hcap : xs.length ≤ c) (hlen : (Lib.join (xs.map (·.data.toList)) sep.data.toList).length ≤ 140737488355328) :
    Calls Tryd.prog 110 #[.slice (some ⟨bk, o, none⟩) xs.length c, .string sep] w fun e w' => e = .returned (.string ⟨(Lib.join (xs.map (·.data.toList)) sep.data.toList).toArray⟩) ∧ Below w.heap.size w w' := Any.strings_Join Tryd.lays156 Tryd.Builder_Extra_156 bk o c xs sep w hcells hbk hN hcap hlen
def Tryd.laysM171_ren : Go.Shelf.Ren := ⟨fun | 171 => 111 | 243 => 210 | 246 => 240 | 283 => 247 | 284 => 248 | 285 => 249 | 286 => 250 | 129 => 252 | 317 => 251 | 318 => 253 | 319 => 254 | 320 => 255 | 337 => 256 | 338 => 257 | n => n, fun | 3 => 3 | 9 => 9 | 2 => 2 | 4 => 4 | 171 => 145 | 0 => 0 | 53 => 146 | 37 => 77 | 5 => 5 | 173 => 149 | 212 => 151 | 51 => 152 | 20 => 20 | 213 => 153 | 46 => 114 | 232 => 156 | 233 => 157 | n => n, fun | 17 => 1 | 18 => 2 | 19 => 3 | n => n⟩
theorem Tryd.laysM171 : Go.Proofs.LaysM.n171 Tryd.prog Tryd.laysM171_ren := {
  mixed := by kernel_rfl
  f129 := Tryd.func252.trans (congrArg some (by kernel_rfl))
  f171 := Tryd.func111.trans (congrArg some (by kernel_rfl))
  f243 := Tryd.func210.trans (congrArg some (by kernel_rfl))
  f246 := Tryd.func240.trans (congrArg some (by kernel_rfl))
  f283 := Tryd.func247.trans (congrArg some (by kernel_rfl))
  f284 := Tryd.func248.trans (congrArg some (by kernel_rfl))
  f285 := Tryd.func249.trans (congrArg some (by kernel_rfl))
  f286 := Tryd.func250.trans (congrArg some (by kernel_rfl))
  f317 := Tryd.func251.trans (congrArg some (by kernel_rfl))
  f318 := Tryd.func253.trans (congrArg some (by kernel_rfl))
  f319 := Tryd.func254.trans (congrArg some (by kernel_rfl))
  f320 := Tryd.func255.trans (congrArg some (by kernel_rfl))
  f337 := Tryd.func256.trans (congrArg some (by kernel_rfl))
  f338 := Tryd.func257.trans (congrArg some (by kernel_rfl))
  t0 := Tryd.underlying0
  a0 := Tryd.isAgg0
  z0 := Tryd.sizeOf0
  v0 := Tryd.zeroValue0
  t2 := Tryd.underlying2
  a2 := Tryd.isAgg2
  z2 := Tryd.sizeOf2
  v2 := Tryd.zeroValue2
  t3 := Tryd.underlying3
  a3 := Tryd.isAgg3
  z3 := Tryd.sizeOf3
  v3 := Tryd.zeroValue3
  t4 := Tryd.underlying4
  a4 := Tryd.isAgg4
  z4 := Tryd.sizeOf4
  v4 := Tryd.zeroValue4
  t5 := Tryd.underlying5
  a5 := Tryd.isAgg5
  z5 := Tryd.sizeOf5
  v5 := Tryd.zeroValue5
  t9 := Tryd.underlying9
  a9 := Tryd.isAgg9
  z9 := Tryd.sizeOf9
  v9 := Tryd.zeroValue9
  t20 := Tryd.underlying20
  a20 := Tryd.isAgg20
  z20 := Tryd.sizeOf20
  v20 := Tryd.zeroValue20
  t37 := Tryd.underlying77
  a37 := Tryd.isAgg77
  z37 := Tryd.sizeOf77
  v37 := Tryd.zeroValue77
  t46 := Tryd.underlying114
  a46 := Tryd.isAgg114
  z46 := Tryd.sizeOf114
  v46 := Tryd.zeroValue114
  t51 := Tryd.underlying152
  a51 := Tryd.isAgg152
  z51 := Tryd.sizeOf152
  v51 := Tryd.zeroValue152
  t53 := Tryd.underlying146
  a53 := Tryd.isAgg146
  z53 := Tryd.sizeOf146
  v53 := Tryd.zeroValue146
  t171 := Tryd.underlying145
  a171 := Tryd.isAgg145
  z171 := Tryd.sizeOf145
  v171 := Tryd.zeroValue145
  t173 := Tryd.underlying149
  a173 := Tryd.isAgg149
  z173 := Tryd.sizeOf149
  v173 := Tryd.zeroValue149
  t212 := Tryd.underlying151
  a212 := Tryd.isAgg151
  z212 := Tryd.sizeOf151
  v212 := Tryd.zeroValue151
  t213 := Tryd.underlying153
  a213 := Tryd.isAgg153
  z213 := Tryd.sizeOf153
  t232 := Tryd.underlying156
  a232 := Tryd.isAgg156
  z232 := Tryd.sizeOf156
  v232 := Tryd.zeroValue156
  t233 := Tryd.underlying157
  a233 := Tryd.isAgg157
  z233 := Tryd.sizeOf157
  v233 := Tryd.zeroValue157
  g17 := by kernel_rfl
  g18 := by kernel_rfl
  g19 := by kernel_rfl
  i0 := by kernel_rfl
  i2 := by kernel_rfl
  i3 := by kernel_rfl
  i4 := by kernel_rfl
  i5 := by kernel_rfl
  i9 := by kernel_rfl
  i20 := by kernel_rfl
  i37 := by kernel_rfl
  i46 := by kernel_rfl
  i51 := by kernel_rfl
  i53 := by kernel_rfl
  i171 := by kernel_rfl
  i173 := by kernel_rfl
  i212 := by kernel_rfl
  i232 := by kernel_rfl
  i233 := by kernel_rfl
  m17 := by kernel_rfl
  m18 := by kernel_rfl
  m19 := by kernel_rfl }
open Go.RowKit Go.Sort Go.Lib in
/-- strconv.Itoa: "Itoa is equivalent to FormatInt(int64(i), 10).": i's DECIMAL NUMERAL ('Lib.itoa': a '-' where i is negative, then the digits), FOR EVERY int. The world behind the call: the world before it, new blocks behind the heap (the library's 'var a [24]byte'), draws. (LAID: no walk: one application.) -/
theorem Tryd.strconv_Itoa (n : Int) (h0 : -9223372036854775808 ≤ n) (h1 : n ≤ 9223372036854775807) (w : World) (htab : Lib.TabIs Tryd.prog w "internal/strconv.uint64pow10" .u64 Lib.pow10Tab) :
    Calls Tryd.prog 111 #[.int .i64 n] w fun e w' => e = .returned (.string ⟨(Lib.itoa n).toArray⟩) ∧ ∃ k os, w' = grow (w.drewN k) os := Any.strconv_Itoa Tryd.laysM171 n h0 h1 w htab
end Go.Proofs

open Go Go.Proofs.YtffiddkignmobaaDoorVe Go.Proofs.YtffiddkignmobaaDoorTv Go.Proofs
namespace Go.Proofs.YtffiddkignmobaaDoorTv
set_option maxRecDepth 8000
set_option maxHeartbeats 2000000
theorem tab_g : Tryd.prog.globalNamed "internal/strconv.uint64pow10" = some 1 := by kernel_rfl
theorem tab_is {w : World} (h : sideT w) : Lib.TabIs Tryd.prog w "internal/strconv.uint64pow10" .u64 Lib.pow10Tab := by
  unfold Lib.TabIs World.var?
  rw [tab_g]
  simp only [Option.bind_some]
  unfold sideT at h
  cases hh : w.heap[(1 : Nat)]? with
  | none => rw [hh] at h; exact h
  | some o => rw [hh] at h; cases o <;> exact h
def ito (n : Int) : ByteArray := ⟨(Lib.itoa n).toArray⟩
def joi (l : List ByteArray) (sep : ByteArray) : ByteArray := ⟨(Lib.join (l.map fun x => x.data.toList) sep.data.toList).toArray⟩
theorem Itoa (n : Int) (h0 : -9223372036854775808 ≤ n) (h1 : n ≤ 9223372036854775807) : ConS Tryd.prog 111 [.i n] (.s (ito n)) := by
  refine ⟨rfl, enters_of Tryd.func111 rfl rfl, fun m s avs _ _ _ hv => ?_⟩
  cases hv with
  | cons _ a _ ar ha hr =>
    cases hr
    obtain rfl := ha.int_inv
    refine callV_of_lib (enters_of Tryd.func111 rfl rfl) fun x vals hR hH hv => ?_
    cases hv with
    | cons _ _ v vs k1 k2 =>
      cases k2
      cases k1
      refine ⟨_, fun y => .str (ito n), ?_⟩
      refine (Tryd.strconv_Itoa n h0 h1 x.w (tab_is hR.side)).mono fun e w' ⟨he, k, os, hw⟩ => ⟨he, ?_⟩
      subst hw
      exact ⟨rfl, rfl, rfl, by simp [Sort.grow], fun i hi => by simp [Sort.grow, Array.getElem?_append, hi]⟩
theorem strs_sh {G : Nat → Nat → Prop} {H : Heap} : ∀ {l : List ByteArray} {ch : List (List AV)}, All2 (fun x c => Sh G H .str x c) l ch → ch.flatten = l.map AV.str
  | [], [], _ => rfl
  | x :: l, c :: ch, h => by
    have h1 : c = [.str x] := h.1
    subst h1
    simp [strs_sh h.2]
  | [], _ :: _, h => h.elim
  | _ :: _, [], h => h.elim
theorem vrl_strs {x : Cx} : ∀ {l : List ByteArray} {vs : List Value}, VRL x (l.map AV.str) vs → vs = l.map Value.string
  | [], _, h => by cases h; rfl
  | y :: l, _, h => by
    cases h with
    | cons _ _ v vs h1 h2 => cases h1; rw [vrl_strs h2]; rfl
theorem JoinL (l : List ByteArray) (sep : ByteArray) (hl : (joi l sep).size ≤ 140737488355328) : ConS Tryd.prog 110 [.val (.list .str) l, .s sep] (.s (joi l sep)) := by
  refine ⟨rfl, enters_of Tryd.func110 rfl rfl, fun m s avs _ _ _ hv => ?_⟩
  cases hv with
  | cons _ a _ ar ha hr =>
    cases hr with
    | cons _ b _ bs hb hr =>
      cases hr
      obtain rfl := hb.str_inv
      cases ha with
      | val _ _ _ hsh =>
        obtain ⟨a', ch, ea, hsl, hlen, hrow, hG, hmost, hall⟩ := hsh
        injection ea with ea _
        subst ea
        refine callV_of_lib (enters_of Tryd.func110 rfl rfl) fun x vals hR hH hv => ?_
        cases hv with
        | cons _ _ v vs k1 k2 =>
          cases k2 with
          | cons _ _ v2 vs2 k3 k4 =>
            cases k4
            cases k3
            have hc := strs_sh hall
            rw [hc] at hrow
            obtain ⟨A, cap, rfl, hcap, hcells⟩ := row_cells hR (xs := l.map AV.str) (by rw [hH]; exact hrow) hlen (by simp) (fun b hb => by rw [hb] at hsl; simp [isSl] at hsl) k1
            refine ⟨_, fun y => .str (joi l sep), ?_⟩
            by_cases hz : l = []
            · subst hz
              refine (Tryd.strings_Join_none A cap sep x.w).mono fun e w' ⟨he, hw⟩ => ⟨he, ?_⟩
              subst hw
              exact Go.RowKit.Below.refl _ _
            · obtain ⟨b, o, vs, rfl, hbs, hvl, hcell⟩ := hcells (fun h => hz (List.length_eq_zero_iff.1 h))
              obtain rfl := vrl_strs hvl
              refine (Tryd.strings_Join b o cap l sep x.w (fun j y hy => hcell j _ (by rw [List.getElem?_map, hy]; rfl)) hbs (by simp only [huge] at hmost; omega) hcap (by simpa [joi, ByteArray.size] using hl)).mono fun e w' ⟨he, hw⟩ => ⟨he, hw⟩
end Go.Proofs.YtffiddkignmobaaDoorTv
end
section
open Go Go.Proofs.YtffiddkignmobaaDoorVe Go.Proofs.YtffiddkignmobaaDoorTv Go.Proofs
namespace Go.Proofs.YtffiddkignmobaaDoorTv
set_option maxRecDepth 8000
set_option maxHeartbeats 2000000
theorem FormatIntI (n : Int) (h0 : -9223372036854775808 ≤ n) (h1 : n ≤ 9223372036854775807) : ConS Tryd.prog 38 [.i n] (.s (ito n)) := by
  refine conS_of hmix hTab Tryd.func38 rfl rfl (by kernel_rfl) (by show 1 ≤ Tryd.f38.ntmps; decide) rfl ?_
  refine stp ?_; try with_reducible exact True.intro
  refine useT ((Itoa n h0 h1).toT) ?_; try with_reducible exact True.intro
theorem JoinI (l : List ByteArray) (sep : ByteArray) (hl : (joi l sep).size ≤ 140737488355328) : ConS Tryd.prog 37 [.val (.list .str) l, .s sep] (.s (joi l sep)) := by
  refine conS_of hmix hTab Tryd.func37 rfl rfl (by kernel_rfl) (by show 2 ≤ Tryd.f37.ntmps; decide) rfl ?_
  refine stp ?_; try with_reducible exact True.intro
  refine useT ((JoinL l sep hl).toT) ?_; try with_reducible exact True.intro
def dd (u : Nat) : List UInt8 := if u = 0 then [] else Lib.decDigits u
theorem dd_step {u : Nat} (h : u ≠ 0) : dd u = dd (u / 10) ++ [UInt8.ofNat (48 + u % 10)] := by
  unfold dd
  rw [if_neg h, Lib.decDigits]
  by_cases hu : u < 10
  · rw [dif_pos hu, if_pos (by omega), Nat.mod_eq_of_lt hu]; rfl
  · rw [dif_neg hu, if_neg (by omega)]
theorem ito_size (n : Int) (h0 : -9223372036854775808 ≤ n) (h1 : n ≤ 9223372036854775807) : (ito n).size ≤ 21 := by
  have := Lib.itoa_length_le n h0 h1
  simpa [ito, ByteArray.size] using this
theorem ito_zero : ito 0 = ⟨#[48]⟩ := by
  have : Lib.itoa 0 = [48] := by
    unfold Lib.itoa
    rw [if_neg (by omega)]
    show Lib.decDigits 0 = _
    rw [Lib.decDigits, dif_pos (by omega)]; rfl
  unfold ito
  rw [this]
theorem ito_dd {n : Int} (hz : n ≠ 0) : (if n < 0 then [45] else []) ++ dd n.natAbs = Lib.itoa n := by
  simp only [Lib.itoa, dd, if_neg (show ¬ n.natAbs = 0 by omega)]
  split
  · rfl
  · rw [show n.toNat = n.natAbs by omega]; rfl
theorem u8w {e : Int} (h0 : 0 ≤ e) (h1 : e ≤ 9) : IntKind.u8.wrap (48 + e) = 48 + e := by
  simp [IntKind.wrap, IntKind.signed, IntKind.bits]; omega
theorem ba_data (a b : ByteArray) : (a ++ b).data.toList = a.data.toList ++ b.data.toList := by
  rw [ByteArray.data_append]; simp
theorem ba_ext {a : ByteArray} {l : List UInt8} (h : a.data.toList = l) : a = ⟨l.toArray⟩ := by
  subst h; cases a; rfl
theorem dd_put {u : Nat} (hu : u ≠ 0) (o : ByteArray) {w : Int} (hw : w = 48 + ((u % 10 : Nat) : Int)) : dd (u / 10) ++ (strOfNums [w] ++ o).data.toList = dd u ++ o.data.toList := by
  rw [ba_data, dd_step hu]
  subst hw
  have e : ((48 : Int) + ((u % 10 : Nat) : Int)).toNat = 48 + u % 10 := by omega
  show _ ++ ([UInt8.ofNat ((48 : Int) + ((u % 10 : Nat) : Int)).toNat] ++ _) = _
  rw [e, List.append_assoc]
theorem FormatIntS (n : Int) (h0 : -9223372036854775808 ≤ n) (h1 : n ≤ 9223372036854775807) : ConS Tryd.prog 30 [.i n] (.s (ito n)) := by
  have hsz := ito_size n h0 h1
  refine conS_of hmix hTab Tryd.func30 rfl rfl (by kernel_rfl) (by show 1 ≤ Tryd.f30.ntmps; decide) rfl ?_
  refine stp ?_; try with_reducible exact True.intro
  refine Br.mk (fun hz => ?_) (fun hz => ?_) <;> simp [-Int.ofNat_toNat] at hz
  · subst hz
    refine stp ?_; try with_reducible exact True.intro
    rw [ito_zero]
  have hd := ito_dd hz
  refine stp ?_; try with_reducible exact True.intro
  refine ⟨Int × ByteArray, fun p => dd p.1.natAbs ++ p.2.data.toList = dd n.natAbs ∧ -9223372036854775808 ≤ p.1 ∧ p.1 ≤ 9223372036854775807, fun p => p.1.natAbs, fun p => [(0, .i p.1), (3, .b (decide (n < 0))), (4, .s p.2)], fun p => [], ⟨(n, ByteArray.empty), (fitK [] []), by show dd n.natAbs ++ [] = _; simp, h0, h1⟩, fun ⟨q, o⟩ ⟨hi, hq0, hq1⟩ => ?_⟩
  dsimp only at hi hq0 hq1 ⊢
  have hol : o.size ≤ 21 := by
    have h2 := congrArg List.length (show (if n < 0 then [45] else []) ++ (dd q.natAbs ++ o.data.toList) = Lib.itoa n by rw [hi]; exact hd)
    simp only [List.length_append, Array.length_toList] at h2
    have h3 := Lib.itoa_length_le n h0 h1
    show o.data.size ≤ 21
    omega
  have dn : (q.tmod 10).natAbs = q.natAbs % 10 := Int.natAbs_tmod q 10
  have dq : (q.tdiv 10).natAbs = q.natAbs / 10 := Int.natAbs_tdiv q 10
  obtain ⟨d, hdd⟩ : ∃ d, q.tmod 10 = d := ⟨_, rfl⟩
  obtain ⟨q2, hqq⟩ : ∃ q2, q.tdiv 10 = q2 := ⟨_, rfl⟩
  have hm0 : -9 ≤ q.tmod 10 := by rw [hdd] at dn ⊢; omega
  have hm1 : q.tmod 10 ≤ 9 := by rw [hdd] at dn ⊢; omega
  refine stp ?_; try with_reducible exact True.intro
  refine Br.mk (fun h2 => ?_) (fun h2 => ?_) <;> simp [-Int.ofNat_toNat] at h2
  · refine stp ?_; try with_reducible exact True.intro
    refine Br.mk (fun h3 => ?_) (fun h3 => ?_) <;> simp [-Int.ofNat_toNat] at h3
    · refine stp ?_; try with_reducible exact True.intro
      have hw : IntKind.u8.wrap (48 + (0 - q.tmod 10)) = 48 + (0 - q.tmod 10) := u8w (by omega) (by omega)
      refine ⟨(show (1 : Nat) + o.size ≤ 140737488355328 by omega), ?_⟩
      refine stp ?_; try with_reducible exact True.intro
      refine ⟨(q.tdiv 10, strOfNums [IntKind.u8.wrap (48 + (0 - q.tmod 10))] ++ o), (fitK [] []), ⟨?_, ?_, ?_⟩, ?_⟩
      · rw [hw]; dsimp only; rw [dq, dd_put (by omega) o (by omega)]; exact hi
      · dsimp only; rw [hqq] at dq ⊢; omega
      · dsimp only; rw [hqq] at dq ⊢; omega
      · dsimp only; rw [dq]; omega
    · refine stp ?_; try with_reducible exact True.intro
      have hw : IntKind.u8.wrap (48 + q.tmod 10) = 48 + q.tmod 10 := u8w (by omega) (by omega)
      refine ⟨(show (1 : Nat) + o.size ≤ 140737488355328 by omega), ?_⟩
      refine stp ?_; try with_reducible exact True.intro
      refine ⟨(q.tdiv 10, strOfNums [IntKind.u8.wrap (48 + q.tmod 10)] ++ o), (fitK [] []), ⟨?_, ?_, ?_⟩, ?_⟩
      · rw [hw]; dsimp only; rw [dq, dd_put (by omega) o (by omega)]; exact hi
      · dsimp only; rw [hqq] at dq ⊢; omega
      · dsimp only; rw [hqq] at dq ⊢; omega
      · dsimp only; rw [dq]; omega
  · have hq : q = 0 := by omega
    subst hq
    have ho : (if n < 0 then [45] else []) ++ o.data.toList = Lib.itoa n := by
      rw [← hd, ← hi]; rfl
    refine stp ?_; try with_reducible exact True.intro
    refine Br.mk (fun h3 => ?_) (fun h3 => ?_) <;> simp [-Int.ofNat_toNat] at h3
    · rw [if_pos h3] at ho
      refine stp ?_; try with_reducible exact True.intro
      refine ⟨(show (1 : Nat) + o.size ≤ 140737488355328 by omega), ?_⟩
      refine stp ?_; try with_reducible exact True.intro
      refine congrArg (fun x => V.s x) (ba_ext ?_)
      rw [ba_data]; exact ho
    · rw [if_neg (by omega)] at ho
      refine stp ?_; try with_reducible exact True.intro
      exact congrArg (fun x => V.s x) (ba_ext ho)
def jb (l : List ByteArray) (sep : ByteArray) : Nat → List Int
  | 0 => []
  | i + 1 => jb l sep i ++ (if 0 < i then bys sep else []) ++ bys (l.getD i ByteArray.empty)
theorem jb_len (l : List ByteArray) (sep : ByteArray) : ∀ i j, (jb l sep i).length ≤ (jb l sep (i + j)).length
  | i, 0 => Nat.le_refl _
  | i, j + 1 => by
    have := jb_len l sep i j
    rw [← Nat.add_assoc, jb]
    simp only [List.length_append]
    omega
theorem num_bys (s : ByteArray) : (bys s).map (fun n => UInt8.ofNat n.toNat) = s.data.toList := by
  simp only [bys, List.map_map]
  conv => rhs; rw [← List.map_id s.data.toList]
  apply List.map_congr_left
  intro a _
  simp
theorem jb_join (l : List ByteArray) (sep : ByteArray) : ∀ i, i ≤ l.length → (jb l sep i).map (fun n => UInt8.ofNat n.toNat) = Lib.join ((l.take i).map fun x => x.data.toList) sep.data.toList
  | 0, _ => rfl
  | i + 1, h => by
    have hi := jb_join l sep i (by omega)
    have hl : l[i]? = some (l.getD i ByteArray.empty) := by simp [List.getD, List.getElem?_eq_getElem (show i < l.length by omega)]
    rw [jb, List.map_append, List.map_append, hi, num_bys, List.take_add_one, hl]
    generalize l.getD i ByteArray.empty = y at *
    simp only [Option.toList, List.map_append, List.map_cons, List.map_nil]
    cases i with
    | zero => simp [Lib.join, List.intercalate]
    | succ i =>
      rw [if_pos (by omega), num_bys]
      have hne : (l.take (i + 1)).map (fun x => x.data.toList) ≠ [] := by
        intro h2
        have := congrArg List.length h2
        simp only [List.length_map, List.length_take, List.length_nil] at this
        omega
      generalize (l.take (i + 1)).map (fun x => x.data.toList) = m at *
      cases m with
      | nil => exact absurd rfl hne
      | cons a m => rw [List.cons_append, Lib.join_cons, Lib.join_cons]; simp [Lib.joinTail]
theorem jb_joi (l : List ByteArray) (sep : ByteArray) : strOfNums (jb l sep l.length) = joi l sep := by
  unfold strOfNums joi
  rw [jb_join l sep _ (Nat.le_refl _), List.take_length]
theorem jb_size (l : List ByteArray) (sep : ByteArray) : (jb l sep l.length).length = (joi l sep).size := by
  rw [← jb_joi]; simp [strOfNums, ByteArray.size]
theorem bys_len (s : ByteArray) : (bys s).length = s.size := by simp only [bys, List.length_map, Array.length_toList]; rfl
theorem joi_le (l : List ByteArray) (sep : ByteArray) {b : Nat} (h : ∀ x ∈ l, x.size ≤ b) : (joi l sep).size ≤ l.length * (b + sep.size) := by
  rw [← jb_size]
  have key : ∀ i, i ≤ l.length → (jb l sep i).length ≤ i * (b + sep.size) := by
    intro i
    induction i with
    | zero => intro _; simp [jb]
    | succ i ih =>
      intro hi
      have h1 := ih (by omega)
      have h2 : (l.getD i ByteArray.empty).size ≤ b := by
        simp only [List.getD, List.getElem?_eq_getElem (show i < l.length by omega), Option.getD_some]
        exact h _ (List.getElem_mem _)
      have e1 : (bys (l.getD i ByteArray.empty)).length = (l.getD i ByteArray.empty).size := bys_len _
      have e2 : (bys sep).length = sep.size := bys_len _
      rw [jb, Nat.add_mul]
      simp only [List.length_append]
      split <;> simp only [e2, List.length_nil] <;> omega
  exact key _ (Nat.le_refl _)
theorem JoinS (l : List ByteArray) (sep : ByteArray) (hl : (joi l sep).size ≤ 268435456) (hn : (l.length : Int) ≤ 1048576) : ConS Tryd.prog 73 [.val (.list .str) l, .s sep] (.s (joi l sep)) := by
  have hj : ∀ i, i ≤ l.length → (jb l sep i).length ≤ 268435456 := fun i hi => by
    have := jb_len l sep i (l.length - i)
    rw [show i + (l.length - i) = l.length by omega, jb_size] at this
    omega
  refine conS_of hmix hTab Tryd.func73 rfl rfl (by kernel_rfl) (by show 2 ≤ Tryd.f73.ntmps; decide) rfl ?_
  refine stp ?_; try with_reducible exact True.intro
  refine ⟨Nat, fun i => i ≤ l.length, fun i => l.length - i, fun i => [(0, .val (.list .str) l), (1, .s sep), (5, .own 0 0 (jb l sep i).length), (6, .i i)], fun i => [.arr (.int .u8) (jb l sep i) true], ⟨0, (fitK [] [0]), Nat.zero_le _⟩, fun i hi => ?_⟩
  dsimp only at hi ⊢
  have hx : i < l.length → (jb l sep i).length + (if 0 < i then bys sep else []).length + (bys (rdT .str l (i : Int))).length ≤ 268435456 := fun h => by
    have := hj (i + 1) h
    rw [jb, List.length_append, List.length_append] at this
    exact this
  refine stp ?_; try with_reducible exact True.intro
  refine Br.mk (fun h1 => ?_) (fun h1 => ?_) <;> simp [-Int.ofNat_toNat] at h1
  · have hx := hx (by omega)
    refine stp ?_; try with_reducible exact True.intro
    refine Br.mk (fun h2 => ?_) (fun h2 => ?_) <;> simp [-Int.ofNat_toNat] at h2
    · rw [if_pos (by omega)] at hx
      refine stp ?_; try with_reducible exact True.intro
      have hu : jb l sep (i + 1) = jb l sep i ++ bys sep ++ bys (rdT .str l (i : Int)) := by
        rw [jb, if_pos (by omega)]; rfl
      refine ⟨i + 1, ⟨.frz [], [2], ⟨rfl, rfl, ?_, rfl, trivial⟩, ⟨?_, trivial⟩, by decide, rfl, rfl, rfl⟩, by first | ((try dsimp only); omega) | (simp; omega), by first | ((try dsimp only); omega) | (simp; omega)⟩ <;> rw [hu]
      · show V.own 2 0 _ = V.own 2 0 _
        congr 1
        simp; omega
      · refine congrArg (fun x => some (Obj.arr (.int .u8) x true)) ?_
        simp only [List.drop_zero, List.take_length]
        rw [List.take_of_length_le (by simp)]
    · rw [if_neg (by omega)] at hx
      have hu : jb l sep (i + 1) = jb l sep i ++ bys (rdT .str l (i : Int)) := by
        rw [jb, if_neg (by omega), List.append_nil]; rfl
      refine stp ?_; try with_reducible exact True.intro
      refine ⟨i + 1, ⟨.frz [], [1], ⟨rfl, rfl, ?_, rfl, trivial⟩, ⟨?_, trivial⟩, by decide, rfl, rfl, rfl⟩, by first | ((try dsimp only); omega) | (simp; omega), by first | ((try dsimp only); omega) | (simp; omega)⟩ <;> rw [hu]
      · show V.own 1 0 _ = V.own 1 0 _
        congr 1
        simp
      · refine congrArg (fun x => some (Obj.arr (.int .u8) x true)) ?_
        simp
  · obtain rfl : i = l.length := by omega
    refine stp ?_; try with_reducible exact True.intro
    rw [List.drop_zero, List.take_length, jb_joi]
def nt (l : List Int) : ByteArray := if l = [] then ⟨#[45]⟩ else joi (l.map ito) ⟨#[44]⟩
def In64 (l : List Int) : Prop := ∀ x ∈ l, -9223372036854775808 ≤ x ∧ x ≤ 9223372036854775807
theorem In64_of {l : List Int} (h : wfT (.list (.int .i64)) l) : In64 l := fun x hx => by
  have h1 : (Lit.int .i64 x).wf = true := h x hx
  simpa [Lit.wf, IntKind.min, IntKind.max, IntKind.signed, IntKind.bits] using h1
theorem In64_rd {l : List Int} (h : In64 l) (i : Int) : -9223372036854775808 ≤ rd l i ∧ rd l i ≤ 9223372036854775807 := by
  simp only [rd, List.getD]
  cases hx : l[i.toNat]? with
  | none => simp
  | some y => exact h y (List.mem_of_getElem? hx)
theorem nt_size {l : List Int} (h : In64 l) : (joi (l.map ito) ⟨#[44]⟩).size ≤ l.length * 22 := by
  have := joi_le (l.map ito) ⟨#[44]⟩ (b := 21) (fun x hx => by
    obtain ⟨y, hy, rfl⟩ := List.mem_map.1 hx
    exact ito_size y (h y hy).1 (h y hy).2)
  rw [List.length_map] at this
  exact this
theorem take_map_succ (l : List Int) {i : Nat} (h : i < l.length) : (l.map ito).take (i + 1) = (l.map ito).take i ++ [ito (rd l i)] := by
  rw [List.take_add_one, List.getElem?_map, List.getElem?_eq_getElem h]
  simp [rd, List.getD, List.getElem?_eq_getElem h]
theorem take_ito (l : List Int) : (l.map ito).take l.length = l.map ito := List.take_of_length_le (by simp)
theorem NumbersTextS (l : List Int) (hn : (l.length : Int) ≤ 1048576) (h : In64 l) : ConS Tryd.prog 58 [.il l] (.s (nt l)) := by
  have hsz := nt_size h
  refine conS_of hmix hTab Tryd.func58 rfl rfl (by kernel_rfl) (by show 1 ≤ Tryd.f58.ntmps; decide) rfl ?_
  refine stp ?_; try with_reducible exact True.intro
  refine Br.mk (fun hz => ?_) (fun hz => ?_) <;> simp [-Int.ofNat_toNat] at hz
  · refine stp ?_; try with_reducible exact True.intro
    rw [nt, if_pos hz]
  refine stp ?_; try with_reducible exact True.intro
  refine ⟨Nat, fun i => i ≤ l.length, fun i => l.length - i, fun i => [(0, .il l), (3, .own 0 0 i), (4, .i i)], fun i => [.arr .str ((l.map ito).take i) true], ⟨0, (fitK [] [0]), Nat.zero_le _⟩, fun i hi => ?_⟩
  dsimp only at hi ⊢
  have hr := In64_rd h i
  refine stp ?_; try with_reducible exact True.intro
  refine Br.mk (fun h1 => ?_) (fun h1 => ?_) <;> simp [-Int.ofNat_toNat] at h1
  · refine stp ?_; try with_reducible exact True.intro
    refine useT ((FormatIntS _ hr.1 hr.2).toT) ?_; try with_reducible exact True.intro
    refine ⟨i + 1, ⟨.frz [], [2], ⟨rfl, rfl, rfl, trivial⟩, ⟨?_, trivial⟩, by decide, rfl, rfl, rfl⟩, by first | ((try dsimp only); omega) | (simp; omega), by first | ((try dsimp only); omega) | (simp; omega)⟩
    rw [take_map_succ l (by omega)]
    refine congrArg (fun x => some (Obj.arr .str x true)) ?_
    simp [rd, List.take_take]
  · obtain rfl : i = l.length := by omega
    rw [take_ito]
    refine stp ?_; try with_reducible exact True.intro
    refine useT ((JoinS (l.map ito) ⟨#[44]⟩ (by omega) (by rw [List.length_map]; exact hn)).toT) ?_; try with_reducible exact True.intro
    rw [nt, if_neg hz]
theorem NumbersTextI (l : List Int) (hn : (l.length : Int) ≤ 1048576) (h : In64 l) : ConS Tryd.prog 66 [.il l] (.s (nt l)) := by
  have hsz := nt_size h
  refine conS_of hmix hTab Tryd.func66 rfl rfl (by kernel_rfl) (by show 1 ≤ Tryd.f66.ntmps; decide) rfl ?_
  refine stp ?_; try with_reducible exact True.intro
  refine Br.mk (fun hz => ?_) (fun hz => ?_) <;> simp [-Int.ofNat_toNat] at hz
  · refine stp ?_; try with_reducible exact True.intro
    rw [nt, if_pos hz]
  refine stp ?_; try with_reducible exact True.intro
  refine ⟨Nat, fun i => i ≤ l.length, fun i => l.length - i, fun i => [(3, .own 0 0 i), (10, .il l), (11, .i l.length), (12, .i i)], fun i => [.arr .str ((l.map ito).take i) true], ⟨0, (fitK [] [0]), Nat.zero_le _⟩, fun i hi => ?_⟩
  dsimp only at hi ⊢
  have hr := In64_rd h i
  refine stp ?_; try with_reducible exact True.intro
  refine Br.mk (fun h1 => ?_) (fun h1 => ?_) <;> simp [-Int.ofNat_toNat] at h1
  · refine stp ?_; try with_reducible exact True.intro
    refine useT ((FormatIntI _ hr.1 hr.2).toT) ?_; try with_reducible exact True.intro
    refine ⟨i + 1, ⟨.frz [], [2], ⟨rfl, rfl, rfl, rfl, trivial⟩, ⟨?_, trivial⟩, by decide, rfl, rfl, rfl⟩, by first | ((try dsimp only); omega) | (simp; omega), by first | ((try dsimp only); omega) | (simp; omega)⟩
    rw [take_map_succ l (by omega)]
    refine congrArg (fun x => some (Obj.arr .str x true)) ?_
    simp [rd, List.take_take]
  · obtain rfl : i = l.length := by omega
    rw [take_ito]
    refine stp ?_; try with_reducible exact True.intro
    refine useT ((JoinI (l.map ito) ⟨#[44]⟩ (by omega)).toT) ?_; try with_reducible exact True.intro
    rw [nt, if_neg hz]
end Go.Proofs.YtffiddkignmobaaDoorTv
end
section
open Go Go.Proofs.YtffiddkignmobaaDoorVe Go.Proofs.YtffiddkignmobaaDoorTv Go.Proofs
namespace Go.Proofs.YtffiddkignmobaaDoorTv
set_option maxRecDepth 8000
set_option maxHeartbeats 2000000
theorem szA (a : Array UInt8) : (ByteArray.mk a).size = a.size := rfl
def stx (s : Int × Int) : ByteArray := if isSlp s = true then ito s.1 ++ ⟨#[47]⟩ ++ ito s.2 else ⟨#[]⟩
theorem ito_s (n : Int) (h : -1000000 ≤ n ∧ n ≤ 1000000) : (ito n).size ≤ 21 := ito_size n (by omega) (by omega)
theorem SlopeTextI (s : Int × Int) : ConS Tryd.prog 36 [slV s] (.s (stx s)) := by
  obtain ⟨p, q⟩ := s
  have w := IsSlopeI p q
  unfold stx
  refine conS_of hmix hTab Tryd.func36 rfl rfl (by kernel_rfl) (by show 1 ≤ Tryd.f36.ntmps; decide) rfl ?_
  dsimp only [slV] at w ⊢
  cases hs : isSlp (p, q) with
  | false =>
    rw [hs] at w
    refine stp ?_; try with_reducible exact True.intro
    refine useT w.toT ?_ ⟨⟨rfl, rfl, trivial⟩, trivial⟩
    refine stp ?_; try with_reducible exact True.intro
    rfl
  | true =>
    rw [hs] at w
    unfold isSlp at hs
    have hs := of_decide_eq_true hs
    dsimp only at hs
    have k1 := ito_s p (by omega)
    have k2 := ito_s q (by omega)
    refine stp ?_; try with_reducible exact True.intro
    refine useT w.toT ?_ ⟨⟨rfl, rfl, trivial⟩, trivial⟩
    refine stp ?_; try with_reducible exact True.intro
    refine .inl ⟨_, _, FormatIntI p (by omega) (by omega), by repeat (first | exact trivial | refine ⟨by first | exact rfl | exact trivial | exact ⟨_, rfl, rfl⟩ | exact ⟨_, _, rfl, by first | (simp; done) | (simp; omega), by first | (simp; done) | (simp [List.take_of_length_le]; done) | (rw [List.drop_zero]; exact List.take_of_length_le (by first | omega | (simp; omega))) | (simp [List.take_of_length_le]; omega)⟩ | exact ⟨_, rfl, by first | (simp; done) | (simp; omega), by first | (simp; done) | (simp [List.take_of_length_le]; done) | (rw [List.drop_zero]; exact List.take_of_length_le (by first | omega | (simp; omega))) | (simp [List.take_of_length_le]; omega)⟩, ?_⟩), ?_⟩; refine stp ?_; try with_reducible exact True.intro
    refine ⟨by (try simp only [ByteArray.size_append, szA, List.size_toArray, List.length_cons, List.length_nil, Nat.zero_add, Nat.reduceAdd]); omega, ?_⟩; refine stp ?_; try with_reducible exact True.intro
    refine .inl ⟨_, _, FormatIntI q (by omega) (by omega), by repeat (first | exact trivial | refine ⟨by first | exact rfl | exact trivial | exact ⟨_, rfl, rfl⟩ | exact ⟨_, _, rfl, by first | (simp; done) | (simp; omega), by first | (simp; done) | (simp [List.take_of_length_le]; done) | (rw [List.drop_zero]; exact List.take_of_length_le (by first | omega | (simp; omega))) | (simp [List.take_of_length_le]; omega)⟩ | exact ⟨_, rfl, by first | (simp; done) | (simp; omega), by first | (simp; done) | (simp [List.take_of_length_le]; done) | (rw [List.drop_zero]; exact List.take_of_length_le (by first | omega | (simp; omega))) | (simp [List.take_of_length_le]; omega)⟩, ?_⟩), ?_⟩; refine stp ?_; try with_reducible exact True.intro
    refine ⟨by (try simp only [ByteArray.size_append, szA, List.size_toArray, List.length_cons, List.length_nil, Nat.zero_add, Nat.reduceAdd]); omega, ?_⟩; refine stp ?_; try with_reducible exact True.intro
    rfl
theorem SlopeTextS (s : Int × Int) : ConS Tryd.prog 29 [slV s] (.s (stx s)) := by
  obtain ⟨p, q⟩ := s
  have w := IsSlopeS p q
  unfold stx
  refine conS_of hmix hTab Tryd.func29 rfl rfl (by kernel_rfl) (by show 1 ≤ Tryd.f29.ntmps; decide) rfl ?_
  dsimp only [slV] at w ⊢
  cases hs : isSlp (p, q) with
  | false =>
    rw [hs] at w
    refine stp ?_; try with_reducible exact True.intro
    refine useT w.toT ?_ ⟨⟨rfl, rfl, trivial⟩, trivial⟩
    refine stp ?_; try with_reducible exact True.intro
    rfl
  | true =>
    rw [hs] at w
    unfold isSlp at hs
    have hs := of_decide_eq_true hs
    dsimp only at hs
    have k1 := ito_s p (by omega)
    have k2 := ito_s q (by omega)
    refine stp ?_; try with_reducible exact True.intro
    refine useT w.toT ?_ ⟨⟨rfl, rfl, trivial⟩, trivial⟩
    refine stp ?_; try with_reducible exact True.intro
    refine .inl ⟨_, _, FormatIntS p (by omega) (by omega), by repeat (first | exact trivial | refine ⟨by first | exact rfl | exact trivial | exact ⟨_, rfl, rfl⟩ | exact ⟨_, _, rfl, by first | (simp; done) | (simp; omega), by first | (simp; done) | (simp [List.take_of_length_le]; done) | (rw [List.drop_zero]; exact List.take_of_length_le (by first | omega | (simp; omega))) | (simp [List.take_of_length_le]; omega)⟩ | exact ⟨_, rfl, by first | (simp; done) | (simp; omega), by first | (simp; done) | (simp [List.take_of_length_le]; done) | (rw [List.drop_zero]; exact List.take_of_length_le (by first | omega | (simp; omega))) | (simp [List.take_of_length_le]; omega)⟩, ?_⟩), ?_⟩; refine stp ?_; try with_reducible exact True.intro
    refine ⟨by (try simp only [ByteArray.size_append, szA, List.size_toArray, List.length_cons, List.length_nil, Nat.zero_add, Nat.reduceAdd]); omega, ?_⟩; refine stp ?_; try with_reducible exact True.intro
    refine .inl ⟨_, _, FormatIntS q (by omega) (by omega), by repeat (first | exact trivial | refine ⟨by first | exact rfl | exact trivial | exact ⟨_, rfl, rfl⟩ | exact ⟨_, _, rfl, by first | (simp; done) | (simp; omega), by first | (simp; done) | (simp [List.take_of_length_le]; done) | (rw [List.drop_zero]; exact List.take_of_length_le (by first | omega | (simp; omega))) | (simp [List.take_of_length_le]; omega)⟩ | exact ⟨_, rfl, by first | (simp; done) | (simp; omega), by first | (simp; done) | (simp [List.take_of_length_le]; done) | (rw [List.drop_zero]; exact List.take_of_length_le (by first | omega | (simp; omega))) | (simp [List.take_of_length_le]; omega)⟩, ?_⟩), ?_⟩; refine stp ?_; try with_reducible exact True.intro
    refine ⟨by (try simp only [ByteArray.size_append, szA, List.size_toArray, List.length_cons, List.length_nil, Nat.zero_add, Nat.reduceAdd]); omega, ?_⟩; refine stp ?_; try with_reducible exact True.intro
    rfl
@[reducible] def slT : Ty := .pair (.int .i64) (.pair (.int .i64) .unit)
abbrev Sl := Int × Int × Unit
def slp (x : Int × Int) : Sl := (x.1, x.2, ())
def twM (m : Mx) : Bool := isM m && !decide (m.2.1 = 0 ∧ m.2.2.1 = 0) && decide (trM m = 2 ∨ trM m = -2)
theorem c0 : ((ByteArray.mk #[]).toList == kTw.toList) = false := by decide +kernel
theorem cId : (kId.toList == kTw.toList) = false := by decide +kernel
theorem cPe : (kPe.toList == kTw.toList) = false := by decide +kernel
theorem cTw : (kTw.toList == kTw.toList) = true := by decide +kernel
theorem cSt : (kSt.toList == kTw.toList) = false := by decide +kernel
theorem kin_tw (m : Mx) : ((kinM m).toList == kTw.toList) = twM m := by
  unfold kinM twM
  cases hm : isM m with
  | false => rw [if_pos rfl, c0]; rfl
  | true =>
    rw [if_neg (by decide)]
    by_cases h1 : m.2.1 = 0 ∧ m.2.2.1 = 0
    · rw [if_pos h1, decide_eq_true h1, cId]; rfl
    · rw [if_neg h1, decide_eq_false h1]
      by_cases h2 : -1 ≤ trM m ∧ trM m ≤ 1
      · rw [if_pos h2, decide_eq_false (by omega), cPe]; rfl
      · rw [if_neg h2]
        by_cases h3 : trM m = 2 ∨ trM m = -2
        · rw [if_pos h3, decide_eq_true h3, cTw]; rfl
        · rw [if_neg h3, decide_eq_false h3, cSt]; rfl
def fxL (m : Mx) : List Sl := if twM m = true then (if m.1 - (trM m).tdiv 2 = 0 ∧ m.2.2.1 = 0 then [slp (slo m.2.1 (m.2.2.2 - (trM m).tdiv 2))] else [slp (slo (m.1 - (trM m).tdiv 2) m.2.2.1)]) else []
theorem tw_facts {a b c d : Int} (h : twM (a, b, c, d) = true) : MxF a b c d ∧ ((a + d).tdiv 2 = 1 ∨ (a + d).tdiv 2 = -1) ∧ (-1000 ≤ a - (a + d).tdiv 2 ∧ a - (a + d).tdiv 2 ≤ 1000) ∧ (d - (a + d).tdiv 2 = -(a - (a + d).tdiv 2)) ∧ ¬ (b = 0 ∧ c = 0) := by
  unfold twM trM at h
  simp only [Bool.and_eq_true, Bool.not_eq_true', decide_eq_true_eq, decide_eq_false_iff_not] at h
  obtain ⟨⟨h1, h2⟩, h3⟩ := h
  obtain ⟨h4, -⟩ := isM_iff.1 h1
  obtain ⟨⟨a1, a2⟩, b1, c1, d1, d2⟩ := h4
  refine ⟨⟨⟨a1, a2⟩, b1, c1, d1, d2⟩, ?_⟩
  rcases h3 with h3 | h3 <;> rw [h3]
  · exact ⟨.inl rfl, by show -1000 ≤ a - 1 ∧ a - 1 ≤ 1000; omega, by show d - 1 = -(a - 1); omega, h2⟩
  · exact ⟨.inr rfl, by show -1000 ≤ a - -1 ∧ a - -1 ≤ 1000; omega, by show d - -1 = -(a - -1); omega, h2⟩
theorem slO_some {p q : Int} (h : (-1000 ≤ p ∧ p ≤ 1000) ∧ (-1000 ≤ q ∧ q ≤ 1000) ∧ ¬(p = 0 ∧ q = 0)) : slO p q = (slo p q, true) := by unfold slO; rw [if_pos h]
theorem slO_zero : slO 0 0 = ((0, 0), false) := by unfold slO; rw [if_neg (by simp)]
theorem fx_len {m : Mx} (h : twM m = true) : (fxL m).length = 1 := by
  unfold fxL
  rw [if_pos h]
  split <;> rfl
theorem FixedSlopesI0 {m : Mx} (ht : twM m = false) : ConT Tryd.prog 35 [mxV m] (.nil .unit) [] := by
  obtain ⟨a, b, c, d⟩ := m
  have w := KindOfI (a, b, c, d)
  have hk := kin_tw (a, b, c, d)
  generalize kinM (a, b, c, d) = k at *
  refine conT_of hmix hTab Tryd.func35 rfl rfl (by kernel_rfl) (by show 1 ≤ Tryd.f35.ntmps; decide) ?_
  dsimp only [mxV] at w ⊢
  rw [ht] at hk
  refine stp ?_; try with_reducible exact True.intro
  refine useT w.toT ?_ ⟨⟨rfl, rfl, rfl, rfl, trivial⟩, trivial⟩
  refine brT (by rw [show (k.toList == (ByteArray.mk #[116, 119, 105, 115, 116]).toList) = false from hk]; rfl) ?_
  refine stp ?_; try with_reducible exact True.intro
  exact (fitK [] [])
theorem FixedSlopesI1 {m : Mx} (ht : twM m = true) : ConT Tryd.prog 35 [mxV m] (.own 0 0 1) [.arr slT (fxL m) true] := by
  obtain ⟨a, b, c, d⟩ := m
  have w := KindOfI (a, b, c, d)
  have hk := kin_tw (a, b, c, d)
  generalize kinM (a, b, c, d) = k at *
  have w1 := fun p q h => slO_some (p := p) (q := q) h ▸ SlopeOfI p q
  unfold fxL
  rw [if_pos ht]
  rw [ht] at hk
  obtain ⟨⟨ha, hb, hc, hd⟩, ht, hr, he, hn⟩ := tw_facts ht
  unfold trM
  by_cases h1 : a - (a + d).tdiv 2 = 0
  · by_cases h2 : c = 0
    · rw [if_pos ⟨h1, h2⟩]
      refine conT_of hmix hTab Tryd.func35 rfl rfl (by kernel_rfl) (by show 1 ≤ Tryd.f35.ntmps; decide) ?_
      dsimp only [mxV, slOV, slV, trM] at w w1 ⊢
      refine stp ?_; try with_reducible exact True.intro
      refine useT w.toT ?_ ⟨⟨rfl, rfl, rfl, rfl, trivial⟩, trivial⟩
      refine brF (by rw [show (k.toList == (ByteArray.mk #[116, 119, 105, 115, 116]).toList) = true from hk]; rfl) ?_
      refine stp ?_; try with_reducible exact True.intro
      rw [decide_eq_true h1]
      refine stp ?_; try with_reducible exact True.intro
      rw [decide_eq_true h2]
      refine stp ?_; try with_reducible exact True.intro
      have w1 := w1 (b) (d - (a + d).tdiv 2) (by omega)
      refine useT (w1.toT) ?_; try with_reducible exact True.intro
      exact (fitK [] [2])
    · rw [if_neg (fun h => h2 h.2)]
      refine conT_of hmix hTab Tryd.func35 rfl rfl (by kernel_rfl) (by show 1 ≤ Tryd.f35.ntmps; decide) ?_
      dsimp only [mxV, slOV, slV, trM] at w w1 ⊢
      refine stp ?_; try with_reducible exact True.intro
      refine useT w.toT ?_ ⟨⟨rfl, rfl, rfl, rfl, trivial⟩, trivial⟩
      refine brF (by rw [show (k.toList == (ByteArray.mk #[116, 119, 105, 115, 116]).toList) = true from hk]; rfl) ?_
      refine stp ?_; try with_reducible exact True.intro
      rw [decide_eq_true h1]
      refine stp ?_; try with_reducible exact True.intro
      rw [decide_eq_false h2]
      refine stp ?_; try with_reducible exact True.intro
      have w1 := w1 (a - (a + d).tdiv 2) (c) (by omega)
      refine useT (w1.toT) ?_; try with_reducible exact True.intro
      exact (fitK [] [2])
  · rw [if_neg (fun h => h1 h.1)]
    refine conT_of hmix hTab Tryd.func35 rfl rfl (by kernel_rfl) (by show 1 ≤ Tryd.f35.ntmps; decide) ?_
    dsimp only [mxV, slOV, slV, trM] at w w1 ⊢
    refine stp ?_; try with_reducible exact True.intro
    refine useT w.toT ?_ ⟨⟨rfl, rfl, rfl, rfl, trivial⟩, trivial⟩
    refine brF (by rw [show (k.toList == (ByteArray.mk #[116, 119, 105, 115, 116]).toList) = true from hk]; rfl) ?_
    refine stp ?_; try with_reducible exact True.intro
    rw [decide_eq_false h1]
    refine stp ?_; try with_reducible exact True.intro
    have w1 := w1 (a - (a + d).tdiv 2) (c) (by omega)
    refine useT (w1.toT) ?_; try with_reducible exact True.intro
    exact (fitK [] [2])
theorem FixedSlopesS (m : Mx) : ConT Tryd.prog 28 [mxV m] (.own 0 0 (fxL m).length) [.arr slT (fxL m) true] := by
  obtain ⟨a, b, c, d⟩ := m
  have w := KindOfS (a, b, c, d)
  have hk := kin_tw (a, b, c, d)
  generalize kinM (a, b, c, d) = k at *
  have w1 := fun p q h => slO_some (p := p) (q := q) h ▸ SlopeOfS p q
  have w0 := slO_zero ▸ SlopeOfS 0 0
  unfold fxL trM
  cases ht : twM (a, b, c, d) with
  | false =>
    rw [ht] at hk
    rw [if_neg (by decide)]
    refine conT_of hmix hTab Tryd.func28 rfl rfl (by kernel_rfl) (by show 1 ≤ Tryd.f28.ntmps; decide) ?_
    dsimp only [mxV, slOV, slV] at w w1 w0 ⊢
    refine stp ?_; try with_reducible exact True.intro
    refine useT w.toT ?_ ⟨⟨rfl, rfl, rfl, rfl, trivial⟩, trivial⟩
    refine brT (by rw [show (k.toList == (ByteArray.mk #[116, 119, 105, 115, 116]).toList) = false from hk]; rfl) ?_
    refine stp ?_; try with_reducible exact True.intro
    exact (fitK [] [1])
  | true =>
    rw [ht] at hk
    obtain ⟨⟨ha, hb, hc, hd⟩, ht, hr, he, hn⟩ := tw_facts ht
    rw [if_pos rfl]
    dsimp only [mxV, slOV, slV] at w w1 w0 ⊢
    by_cases h1 : a - (a + d).tdiv 2 = 0 ∧ c = 0
    · obtain ⟨h1, rfl⟩ := h1
      have w0 : ConS Tryd.prog 103 [.i (a - (a + d).tdiv 2), .i 0] (.tup [.agg [.i 0, .i 0], .b false]) := h1.symm ▸ w0
      rw [if_pos ⟨h1, rfl⟩]
      refine conT_of hmix hTab Tryd.func28 rfl rfl (by kernel_rfl) (by show 1 ≤ Tryd.f28.ntmps; decide) ?_
      refine stp ?_; try with_reducible exact True.intro
      refine useT w.toT ?_ ⟨⟨rfl, rfl, rfl, rfl, trivial⟩, trivial⟩
      refine brF (by rw [show (k.toList == (ByteArray.mk #[116, 119, 105, 115, 116]).toList) = true from hk]; rfl) ?_
      refine stp ?_; try with_reducible exact True.intro
      refine useT (w0.toT) ?_; try with_reducible exact True.intro
      have w1 := w1 b (d - (a + d).tdiv 2) (by omega)
      refine useT (w1.toT) ?_; try with_reducible exact True.intro
      exact (fitK [] [4])
    · rw [if_neg h1]
      refine conT_of hmix hTab Tryd.func28 rfl rfl (by kernel_rfl) (by show 1 ≤ Tryd.f28.ntmps; decide) ?_
      refine stp ?_; try with_reducible exact True.intro
      refine useT w.toT ?_ ⟨⟨rfl, rfl, rfl, rfl, trivial⟩, trivial⟩
      refine brF (by rw [show (k.toList == (ByteArray.mk #[116, 119, 105, 115, 116]).toList) = true from hk]; rfl) ?_
      refine stp ?_; try with_reducible exact True.intro
      have w1 := w1 (a - (a + d).tdiv 2) c (by omega)
      refine useT (w1.toT) ?_; try with_reducible exact True.intro
      exact (fitK [] [4])
end Go.Proofs.YtffiddkignmobaaDoorTv
end
section
open Go Go.Proofs.YtffiddkignmobaaDoorVe Go.Proofs.YtffiddkignmobaaDoorTv Go.Proofs
namespace Go.Proofs.YtffiddkignmobaaDoorTv
set_option maxRecDepth 8000
set_option maxHeartbeats 2000000
def mulM (m n : Mx) : Mx := (m.1 * n.1 + m.2.1 * n.2.2.1, m.1 * n.2.1 + m.2.1 * n.2.2.2, m.2.2.1 * n.1 + m.2.2.2 * n.2.2.1, m.2.2.1 * n.2.1 + m.2.2.2 * n.2.2.2)
def MxB (m : Mx) : Prop := MxF m.1 m.2.1 m.2.2.1 m.2.2.2
theorem l13Times {m n : Mx} (hm : MxB m) (hn : MxB n) : ConS Tryd.prog 106 [mxV m, mxV n] (mxV (mulM m n)) := by
  obtain ⟨a, b, c, d⟩ := m
  obtain ⟨a', b', c', d'⟩ := n
  obtain ⟨ha, hb, hc, hd⟩ := hm
  obtain ⟨ha', hb', hc', hd'⟩ := hn
  dsimp only at *
  have h1 := mul_k ha ha'
  have h2 := mul_k hb hc'
  have h3 := mul_k ha hb'
  have h4 := mul_k hb hd'
  have h5 := mul_k hc ha'
  have h6 := mul_k hd hc'
  have h7 := mul_k hc hb'
  have h8 := mul_k hd hd'
  unfold mulM
  refine conS_of hmix hTab Tryd.func106 rfl rfl (by kernel_rfl) (by show 2 ≤ Tryd.f106.ntmps; decide) rfl ?_
  dsimp only [mxV]
  repeat (first | (with_reducible refine wpKs ?_) | (with_reducible refine wpKb ?_) | (with_reducible refine wpKbn ?_) | (with_reducible refine wpKk ?_) | (refine wpKt rfl ?_) | (refine wpKf rfl ?_) | (with_reducible refine wpKr ?_) | ((with_reducible refine wpKd ?_ ?_); kernel_rfl) | (with_reducible refine wpKn ?_) | (with_reducible refine seqKn ?_) | (with_reducible refine drawKn ?_) | (first | refine seqKs rfl rfl rfl rfl ?_ | refine seqKu rfl rfl rfl rfl ?_ | refine drawKs rfl rfl rfl rfl ?_ | refine drawKu rfl rfl rfl rfl ?_) | ((first | refine seqK rfl rfl (fun K' hK => ?_) | refine seqKr rfl rfl rfl rfl (fun K' hK => ?_)); refine stp ?_; with_reducible refine hK _ _ ?_; clear hK K') | ((first | refine drawK rfl rfl (fun K' hK => ?_) | refine drawKr rfl rfl rfl rfl (fun K' hK => ?_)); refine stp ?_; with_reducible refine hK _ _ _ ?_; clear hK K') | (refine seqKz rfl rfl (fun K' hK => ?_); refine stp ?_; with_reducible refine hK _ ?_; clear hK K') | (refine drawKz rfl rfl (fun K' hK => ?_); refine stp ?_; with_reducible refine hK _ _ ?_; clear hK K'))
  refine stp ?_; try with_reducible exact True.intro
  rfl
theorem TimesMatrix {m n : Mx} (hm : isM m = true) (hn : isM n = true) (hmn : isM (mulM m n) = true) : ConS Tryd.prog 114 [mxV m, mxV n] (.tup [mxV (mulM m n), .b true]) := by
  have w1 := IsMatrixI m
  have w2 := IsMatrixI n
  have w3 := IsMatrixI (mulM m n)
  rw [hm] at w1
  rw [hn] at w2
  rw [hmn] at w3
  obtain ⟨a, b, c, d⟩ := m
  obtain ⟨a', b', c', d'⟩ := n
  obtain ⟨⟨ha, hb, hc, hd⟩, -⟩ := isM_iff.1 hm
  obtain ⟨⟨ha', hb', hc', hd'⟩, -⟩ := isM_iff.1 hn
  have h1 := mul_k ha ha'
  have h2 := mul_k hb hc'
  have h3 := mul_k ha hb'
  have h4 := mul_k hb hd'
  have h5 := mul_k hc ha'
  have h6 := mul_k hd hc'
  have h7 := mul_k hc hb'
  have h8 := mul_k hd hd'
  unfold mulM at *
  refine conS_of hmix hTab Tryd.func114 rfl rfl (by kernel_rfl) (by show 2 ≤ Tryd.f114.ntmps; decide) rfl ?_
  dsimp only [mxV] at *
  repeat (first | (with_reducible refine wpKs ?_) | (with_reducible refine wpKb ?_) | (with_reducible refine wpKbn ?_) | (with_reducible refine wpKk ?_) | (refine wpKt rfl ?_) | (refine wpKf rfl ?_) | (with_reducible refine wpKr ?_) | ((with_reducible refine wpKd ?_ ?_); kernel_rfl) | (with_reducible refine wpKn ?_) | (with_reducible refine seqKn ?_) | (with_reducible refine drawKn ?_) | (first | refine seqKs rfl rfl rfl rfl ?_ | refine seqKu rfl rfl rfl rfl ?_ | refine drawKs rfl rfl rfl rfl ?_ | refine drawKu rfl rfl rfl rfl ?_) | ((first | refine seqK rfl rfl (fun K' hK => ?_) | refine seqKr rfl rfl rfl rfl (fun K' hK => ?_)); refine stp ?_; with_reducible refine hK _ _ ?_; clear hK K') | ((first | refine drawK rfl rfl (fun K' hK => ?_) | refine drawKr rfl rfl rfl rfl (fun K' hK => ?_)); refine stp ?_; with_reducible refine hK _ _ _ ?_; clear hK K') | (refine seqKz rfl rfl (fun K' hK => ?_); refine stp ?_; with_reducible refine hK _ ?_; clear hK K') | (refine drawKz rfl rfl (fun K' hK => ?_); refine stp ?_; with_reducible refine hK _ _ ?_; clear hK K'))
  (first | refine seqK rfl rfl (fun K' hK => ?_) | refine seqKr rfl rfl rfl rfl (fun K' hK => ?_)); (conv => whnf); refine useT (w1.toT) ?_ ⟨⟨rfl, rfl, rfl, rfl, trivial⟩, trivial⟩; (with_reducible refine hK _ _ ?_); clear hK K'; repeat (first | (with_reducible refine wpKs ?_) | (with_reducible refine wpKb ?_) | (with_reducible refine wpKbn ?_) | (with_reducible refine wpKk ?_) | (refine wpKt rfl ?_) | (refine wpKf rfl ?_) | (with_reducible refine wpKr ?_) | ((with_reducible refine wpKd ?_ ?_); kernel_rfl) | (with_reducible refine wpKn ?_) | (with_reducible refine seqKn ?_) | (with_reducible refine drawKn ?_) | (first | refine seqKs rfl rfl rfl rfl ?_ | refine seqKu rfl rfl rfl rfl ?_ | refine drawKs rfl rfl rfl rfl ?_ | refine drawKu rfl rfl rfl rfl ?_) | ((first | refine seqK rfl rfl (fun K' hK => ?_) | refine seqKr rfl rfl rfl rfl (fun K' hK => ?_)); refine stp ?_; with_reducible refine hK _ _ ?_; clear hK K') | ((first | refine drawK rfl rfl (fun K' hK => ?_) | refine drawKr rfl rfl rfl rfl (fun K' hK => ?_)); refine stp ?_; with_reducible refine hK _ _ _ ?_; clear hK K') | (refine seqKz rfl rfl (fun K' hK => ?_); refine stp ?_; with_reducible refine hK _ ?_; clear hK K') | (refine drawKz rfl rfl (fun K' hK => ?_); refine stp ?_; with_reducible refine hK _ _ ?_; clear hK K'))
  (first | refine seqK rfl rfl (fun K' hK => ?_) | refine seqKr rfl rfl rfl rfl (fun K' hK => ?_)); (conv => whnf); refine useT (w2.toT) ?_ ⟨⟨rfl, rfl, rfl, rfl, trivial⟩, trivial⟩; (with_reducible refine hK _ _ ?_); clear hK K'; repeat (first | (with_reducible refine wpKs ?_) | (with_reducible refine wpKb ?_) | (with_reducible refine wpKbn ?_) | (with_reducible refine wpKk ?_) | (refine wpKt rfl ?_) | (refine wpKf rfl ?_) | (with_reducible refine wpKr ?_) | ((with_reducible refine wpKd ?_ ?_); kernel_rfl) | (with_reducible refine wpKn ?_) | (with_reducible refine seqKn ?_) | (with_reducible refine drawKn ?_) | (first | refine seqKs rfl rfl rfl rfl ?_ | refine seqKu rfl rfl rfl rfl ?_ | refine drawKs rfl rfl rfl rfl ?_ | refine drawKu rfl rfl rfl rfl ?_) | ((first | refine seqK rfl rfl (fun K' hK => ?_) | refine seqKr rfl rfl rfl rfl (fun K' hK => ?_)); refine stp ?_; with_reducible refine hK _ _ ?_; clear hK K') | ((first | refine drawK rfl rfl (fun K' hK => ?_) | refine drawKr rfl rfl rfl rfl (fun K' hK => ?_)); refine stp ?_; with_reducible refine hK _ _ _ ?_; clear hK K') | (refine seqKz rfl rfl (fun K' hK => ?_); refine stp ?_; with_reducible refine hK _ ?_; clear hK K') | (refine drawKz rfl rfl (fun K' hK => ?_); refine stp ?_; with_reducible refine hK _ _ ?_; clear hK K'))
  (first | refine seqK rfl rfl (fun K' hK => ?_) | refine seqKr rfl rfl rfl rfl (fun K' hK => ?_)); (conv => whnf); refine useT (w3.toT) ?_ ⟨⟨rfl, rfl, rfl, rfl, trivial⟩, trivial⟩; (with_reducible refine hK _ _ ?_); clear hK K'; repeat (first | (with_reducible refine wpKs ?_) | (with_reducible refine wpKb ?_) | (with_reducible refine wpKbn ?_) | (with_reducible refine wpKk ?_) | (refine wpKt rfl ?_) | (refine wpKf rfl ?_) | (with_reducible refine wpKr ?_) | ((with_reducible refine wpKd ?_ ?_); kernel_rfl) | (with_reducible refine wpKn ?_) | (with_reducible refine seqKn ?_) | (with_reducible refine drawKn ?_) | (first | refine seqKs rfl rfl rfl rfl ?_ | refine seqKu rfl rfl rfl rfl ?_ | refine drawKs rfl rfl rfl rfl ?_ | refine drawKu rfl rfl rfl rfl ?_) | ((first | refine seqK rfl rfl (fun K' hK => ?_) | refine seqKr rfl rfl rfl rfl (fun K' hK => ?_)); refine stp ?_; with_reducible refine hK _ _ ?_; clear hK K') | ((first | refine drawK rfl rfl (fun K' hK => ?_) | refine drawKr rfl rfl rfl rfl (fun K' hK => ?_)); refine stp ?_; with_reducible refine hK _ _ _ ?_; clear hK K') | (refine seqKz rfl rfl (fun K' hK => ?_); refine stp ?_; with_reducible refine hK _ ?_; clear hK K') | (refine drawKz rfl rfl (fun K' hK => ?_); refine stp ?_; with_reducible refine hK _ _ ?_; clear hK K'))
  refine stp ?_; try with_reducible exact True.intro
  rfl
def pwM (m : Mx) : Nat → Mx
  | 0 => m
  | k + 1 => mulM (pwM m k) m
theorem mul1 {m : Mx} : mulM (1, 0, 0, 1) m = m := by simp [mulM]
theorem mulN {m : Mx} : mulM (-1, 0, 0, -1) m = (-m.1, -m.2.1, -m.2.2.1, -m.2.2.2) := by simp [mulM]
/-- Cayley and Hamilton. -/
theorem cayley {a b c d t : Int} (h : a * d - b * c = 1) (ht : a + d = t) : mulM (a, b, c, d) (a, b, c, d) = (t * a - 1, t * b, t * c, t * d - 1) := by
  unfold mulM
  dsimp only
  subst ht
  simp only [Prod.mk.injEq]
  refine ⟨?_, ?_, ?_, ?_⟩ <;> grind
theorem invl {a b c d : Int} (h : a * d - b * c = 1) : mulM (d, -b, -c, a) (a, b, c, d) = (1, 0, 0, 1) := by
  unfold mulM
  dsimp only
  simp only [Prod.mk.injEq]
  refine ⟨?_, ?_, ?_, ?_⟩ <;> grind
theorem invl' {a b c d : Int} (h : a * d - b * c = 1) : mulM (-d, b, c, -a) (a, b, c, d) = (-1, 0, 0, -1) := by
  unfold mulM
  dsimp only
  simp only [Prod.mk.injEq]
  refine ⟨?_, ?_, ?_, ?_⟩ <;> grind
end Go.Proofs.YtffiddkignmobaaDoorTv
end
section
open Go Go.Proofs.YtffiddkignmobaaDoorVe Go.Proofs.YtffiddkignmobaaDoorTv Go.Proofs
namespace Go.Proofs.YtffiddkignmobaaDoorTv
set_option maxRecDepth 8000
set_option maxHeartbeats 2000000
def perM (m : Mx) : Bool := isM m && (decide (m.2.1 = 0 ∧ m.2.2.1 = 0) || decide (-1 ≤ trM m ∧ trM m ≤ 1))
def ordN (m : Mx) : Nat := if m.2.1 = 0 ∧ m.2.2.1 = 0 then (if m.1 = 1 then 1 else 2) else if trM m = 0 then 4 else if trM m = 1 then 6 else 3
def ordV (m : Mx) : Int := if isM m = false then -1 else if perM m = true then ordN m else 0
def PwG (m : Mx) (n : Nat) (l : List Mx) : Prop := n = l.length ∧ ∀ j, j < n → l[j]? = some (pwM m j) ∧ isM (pwM m j) = true ∧ (pwM m j = (1, 0, 0, 1) ↔ j + 1 = n)
theorem isM_neg {a b c d : Int} (h : isM (a, b, c, d) = true) : isM (-a, -b, -c, -d) = true := by
  obtain ⟨⟨h1, h2, h3, h4⟩, h5⟩ := isM_iff.1 h
  exact isM_iff.2 ⟨⟨by omega, by omega, by omega, by omega⟩, by grind⟩
theorem isM_inv {a b c d : Int} (h : isM (a, b, c, d) = true) : isM (d, -b, -c, a) = true := by
  obtain ⟨⟨h1, h2, h3, h4⟩, h5⟩ := isM_iff.1 h
  exact isM_iff.2 ⟨⟨by omega, by omega, by omega, by omega⟩, by grind⟩
theorem isM_neginv {a b c d : Int} (h : isM (a, b, c, d) = true) : isM (-d, b, c, -a) = true := by
  have := isM_neg (isM_inv h)
  rwa [Int.neg_neg, Int.neg_neg] at this
theorem neg_mul {a b c d : Int} (n : Mx) : mulM (-a, -b, -c, -d) n = (-(mulM (a, b, c, d) n).1, -(mulM (a, b, c, d) n).2.1, -(mulM (a, b, c, d) n).2.2.1, -(mulM (a, b, c, d) n).2.2.2) := by
  unfold mulM
  simp only [Prod.mk.injEq]
  refine ⟨?_, ?_, ?_, ?_⟩ <;> grind
theorem pw_ok {m : Mx} (h : perM m = true) : 1 ≤ ordN m ∧ ordN m ≤ 6 ∧ ∀ j, j < ordN m → isM (pwM m j) = true ∧ (pwM m j = (1, 0, 0, 1) ↔ j + 1 = ordN m) := by
  obtain ⟨a, b, c, d⟩ := m
  unfold perM trM at h
  simp only [Bool.and_eq_true, Bool.or_eq_true, decide_eq_true_eq] at h
  obtain ⟨hm, hp⟩ := h
  obtain ⟨⟨ha, hb, hc, hd⟩, hdet⟩ := isM_iff.1 hm
  unfold ordN trM
  dsimp only
  by_cases hz : b = 0 ∧ c = 0
  · rw [if_pos hz]
    rcases (isId hdet).1 hz with ⟨rfl, rfl, rfl, rfl⟩ | ⟨rfl, rfl, rfl, rfl⟩
    · rw [if_pos rfl]
      refine ⟨by omega, by omega, fun j hj => ?_⟩
      obtain rfl : j = 0 := by omega
      exact ⟨hm, by simp [pwM]⟩
    · rw [if_neg (by omega)]
      refine ⟨by omega, by omega, fun j hj => ?_⟩
      rcases (show j = 0 ∨ j = 1 by omega) with rfl | rfl
      · exact ⟨hm, by simp [pwM]⟩
      · exact ⟨by decide +kernel, by decide +kernel⟩
  · rw [if_neg hz]
    have hp : -1 ≤ a + d ∧ a + d ≤ 1 := hp.resolve_left hz
    have hn : ¬ ((a, b, c, d) : Mx) = (1, 0, 0, 1) := fun e => hz (by simp only [Prod.mk.injEq] at e; exact ⟨e.2.1, e.2.2.1⟩)
    have hn2 : ∀ x y : Int, ¬ ((x, -b, -c, y) : Mx) = (1, 0, 0, 1) := fun x y e => hz (by simp only [Prod.mk.injEq] at e; omega)
    have hn3 : ∀ x y : Int, ¬ ((x, b, c, y) : Mx) = (1, 0, 0, 1) := fun x y e => hz (by simp only [Prod.mk.injEq] at e; omega)
    have hn4 : ¬ ((-1, 0, 0, -1) : Mx) = (1, 0, 0, 1) := by decide
    have h0 : isM (-1, 0, 0, -1) = true := by decide +kernel
    have h1 : isM (1, 0, 0, 1) = true := by decide +kernel
    have p0 : pwM (a, b, c, d) 0 = (a, b, c, d) := rfl
    rcases (show a + d = 0 ∨ a + d = 1 ∨ a + d = -1 by omega) with ht | ht | ht
    · rw [if_pos ht]
      have p1 : pwM (a, b, c, d) 1 = (-1, 0, 0, -1) := by
        show mulM (a, b, c, d) (a, b, c, d) = _
        rw [cayley hdet ht]; simp
      have p2 : pwM (a, b, c, d) 2 = (d, -b, -c, a) := by
        show mulM (pwM (a, b, c, d) 1) (a, b, c, d) = _
        rw [p1, mulN]
        simp only [Prod.mk.injEq, true_and, and_true]
        exact ⟨by omega, by omega⟩
      have p3 : pwM (a, b, c, d) 3 = (1, 0, 0, 1) := by
        show mulM (pwM (a, b, c, d) 2) (a, b, c, d) = _
        rw [p2, invl hdet]
      refine ⟨by omega, by omega, fun j hj => ?_⟩
      rcases (show j = 0 ∨ j = 1 ∨ j = 2 ∨ j = 3 by omega) with rfl | rfl | rfl | rfl
      · rw [p0]; exact ⟨hm, ⟨fun e => absurd e hn, fun e => by omega⟩⟩
      · rw [p1]; exact ⟨h0, ⟨fun e => absurd e hn4, fun e => by omega⟩⟩
      · rw [p2]; exact ⟨isM_inv hm, ⟨fun e => absurd e (hn2 _ _), fun e => by omega⟩⟩
      · rw [p3]; exact ⟨h1, ⟨fun _ => rfl, fun _ => rfl⟩⟩
    · rw [if_neg (by omega), if_pos ht]
      have p1 : pwM (a, b, c, d) 1 = (-d, b, c, -a) := by
        show mulM (a, b, c, d) (a, b, c, d) = _
        rw [cayley hdet ht]
        simp only [Prod.mk.injEq]
        exact ⟨by omega, by omega, by omega, by omega⟩
      have p2 : pwM (a, b, c, d) 2 = (-1, 0, 0, -1) := by
        show mulM (pwM (a, b, c, d) 1) (a, b, c, d) = _
        rw [p1, invl' hdet]
      have p3 : pwM (a, b, c, d) 3 = (-a, -b, -c, -d) := by
        show mulM (pwM (a, b, c, d) 2) (a, b, c, d) = _
        rw [p2, mulN]
      have p4 : pwM (a, b, c, d) 4 = (d, -b, -c, a) := by
        show mulM (pwM (a, b, c, d) 3) (a, b, c, d) = _
        rw [p3, neg_mul, cayley hdet ht]
        simp only [Prod.mk.injEq]
        exact ⟨by omega, by omega, by omega, by omega⟩
      have p5 : pwM (a, b, c, d) 5 = (1, 0, 0, 1) := by
        show mulM (pwM (a, b, c, d) 4) (a, b, c, d) = _
        rw [p4, invl hdet]
      refine ⟨by omega, by omega, fun j hj => ?_⟩
      rcases (show j = 0 ∨ j = 1 ∨ j = 2 ∨ j = 3 ∨ j = 4 ∨ j = 5 by omega) with rfl | rfl | rfl | rfl | rfl | rfl
      · rw [p0]; exact ⟨hm, ⟨fun e => absurd e hn, fun e => by omega⟩⟩
      · rw [p1]; exact ⟨isM_neginv hm, ⟨fun e => absurd e (hn3 _ _), fun e => by omega⟩⟩
      · rw [p2]; exact ⟨h0, ⟨fun e => absurd e hn4, fun e => by omega⟩⟩
      · rw [p3]; exact ⟨isM_neg hm, ⟨fun e => absurd e (hn2 _ _), fun e => by omega⟩⟩
      · rw [p4]; exact ⟨isM_inv hm, ⟨fun e => absurd e (hn2 _ _), fun e => by omega⟩⟩
      · rw [p5]; exact ⟨h1, ⟨fun _ => rfl, fun _ => rfl⟩⟩
    · rw [if_neg (by omega), if_neg (by omega)]
      have p1 : pwM (a, b, c, d) 1 = (d, -b, -c, a) := by
        show mulM (a, b, c, d) (a, b, c, d) = _
        rw [cayley hdet ht]
        simp only [Prod.mk.injEq]
        exact ⟨by omega, by omega, by omega, by omega⟩
      have p2 : pwM (a, b, c, d) 2 = (1, 0, 0, 1) := by
        show mulM (pwM (a, b, c, d) 1) (a, b, c, d) = _
        rw [p1, invl hdet]
      refine ⟨by omega, by omega, fun j hj => ?_⟩
      rcases (show j = 0 ∨ j = 1 ∨ j = 2 by omega) with rfl | rfl | rfl
      · rw [p0]; exact ⟨hm, ⟨fun e => absurd e hn, fun e => by omega⟩⟩
      · rw [p1]; exact ⟨isM_inv hm, ⟨fun e => absurd e (hn2 _ _), fun e => by omega⟩⟩
      · rw [p2]; exact ⟨h1, ⟨fun _ => rfl, fun _ => rfl⟩⟩
def kIP (k : ByteArray) : Bool := !(k.toList == kId.toList) && !(k.toList == kPe.toList)
def kTS (k : ByteArray) : Bool := (k.toList == kTw.toList) || (k.toList == kSt.toList)
theorem kin_per {m : Mx} (hm : isM m = true) : kIP (kinM m) = !perM m ∧ kTS (kinM m) = !perM m := by
  have e1 : kIP kId = false ∧ kTS kId = false := by decide +kernel
  have e2 : kIP kPe = false ∧ kTS kPe = false := by decide +kernel
  have e3 : kIP kTw = true ∧ kTS kTw = true := by decide +kernel
  have e4 : kIP kSt = true ∧ kTS kSt = true := by decide +kernel
  unfold kinM perM
  rw [hm, if_neg (by decide)]
  by_cases h1 : m.2.1 = 0 ∧ m.2.2.1 = 0
  · rw [if_pos h1, decide_eq_true h1]; exact e1
  · rw [if_neg h1, decide_eq_false h1]
    by_cases h2 : -1 ≤ trM m ∧ trM m ≤ 1
    · rw [if_pos h2, decide_eq_true h2]; exact e2
    · rw [if_neg h2, decide_eq_false h2]
      by_cases h3 : trM m = 2 ∨ trM m = -2
      · rw [if_pos h3]; exact e3
      · rw [if_neg h3]; exact e4
theorem OrderOfI (m : Mx) : ConS Tryd.prog 41 [mxV m] (.i (ordV m)) := by
  have w := IsMatrixI m
  have wk := KindOfI m
  unfold ordV
  cases hm : isM m with
  | false =>
    rw [hm] at w
    obtain ⟨a, b, c, d⟩ := m
    refine conS_of hmix hTab Tryd.func41 rfl rfl (by kernel_rfl) (by show 1 ≤ Tryd.f41.ntmps; decide) rfl ?_
    dsimp only [mxV] at w ⊢
    refine stp ?_; try with_reducible exact True.intro
    refine useT w.toT ?_ ⟨⟨rfl, rfl, rfl, rfl, trivial⟩, trivial⟩
    refine stp ?_; try with_reducible exact True.intro
    rfl
  | true =>
    rw [hm] at w
    have hk := (kin_per hm).1
    unfold kIP at hk
    generalize kinM m = k at *
    rw [if_neg (by decide)]
    cases hp : perM m with
    | false =>
      rw [hp] at hk
      simp only [Bool.not_false, Bool.and_eq_true] at hk
      obtain ⟨k1, k2⟩ := hk
      obtain ⟨a, b, c, d⟩ := m
      refine conS_of hmix hTab Tryd.func41 rfl rfl (by kernel_rfl) (by show 1 ≤ Tryd.f41.ntmps; decide) rfl ?_
      dsimp only [mxV] at w wk ⊢
      refine stp ?_; try with_reducible exact True.intro
      refine useT w.toT ?_ ⟨⟨rfl, rfl, rfl, rfl, trivial⟩, trivial⟩
      refine stp ?_; try with_reducible exact True.intro
      refine useT wk.toT ?_ ⟨⟨rfl, rfl, rfl, rfl, trivial⟩, trivial⟩
      refine brT k1 ?_
      refine stp ?_; try with_reducible exact True.intro
      refine brT k2 ?_
      refine stp ?_; try with_reducible exact True.intro
      rfl
    | true =>
      rw [hp] at hk
      obtain ⟨n1, n6, hpw⟩ := pw_ok hp
      rw [if_pos rfl]
      have kf : ∃ q1 q2 : Bool, (!(k.toList == kId.toList)) = q1 ∧ (!(k.toList == kPe.toList)) = q2 ∧ (q1 && q2) = false := ⟨_, _, rfl, rfl, hk⟩
      obtain ⟨q1, q2, k1, k2, hq⟩ := kf
      generalize hN : ordN m = N at *
      refine conS_of hmix hTab Tryd.func41 rfl rfl (by kernel_rfl) (by show 1 ≤ Tryd.f41.ntmps; decide) rfl ?_
      dsimp only [mxV] at w wk ⊢
      refine stp ?_; try with_reducible exact True.intro
      refine useT w.toT ?_ ⟨⟨rfl, rfl, rfl, rfl, trivial⟩, trivial⟩
      refine stp ?_; try with_reducible exact True.intro
      refine useT wk.toT ?_ ⟨⟨rfl, rfl, rfl, rfl, trivial⟩, trivial⟩
      cases q1 with
      | false =>
        refine brF k1 ?_
        refine stp ?_; try with_reducible exact True.intro
        refine ⟨Nat, fun j => j < N, fun j => 12 - j, fun j => [(1, .pcell 0 0), (4, .pcell 1 0), (5, .i ((j + 1 : Nat) : Int))], fun j => [.vars [.i m.1, .i m.2.1, .i m.2.2.1, .i m.2.2.2], .vars [.i (pwM m j).1, .i (pwM m j).2.1, .i (pwM m j).2.2.1, .i (pwM m j).2.2.2]], ⟨0, (fitK [] [0, 1]), n1⟩, fun j hj => ?_⟩
        dsimp only at hj ⊢
        obtain ⟨g1, g2⟩ := hpw j hj
        refine stp ?_; try with_reducible exact True.intro
        refine Br.mk (fun h1 => ?_) (fun h1 => ?_) <;> simp [-Int.ofNat_toNat] at h1
        · refine stp ?_; try with_reducible exact True.intro
          refine .inl ⟨_, _, oneI, by repeat (first | exact trivial | refine ⟨by first | exact rfl | exact trivial | exact ⟨_, rfl, rfl⟩ | exact ⟨_, _, rfl, by first | (simp; done) | (simp; omega), by first | (simp; done) | (simp [List.take_of_length_le]; done) | (rw [List.drop_zero]; exact List.take_of_length_le (by first | omega | (simp; omega))) | (simp [List.take_of_length_le]; omega)⟩ | exact ⟨_, rfl, by first | (simp; done) | (simp; omega), by first | (simp; done) | (simp [List.take_of_length_le]; done) | (rw [List.drop_zero]; exact List.take_of_length_le (by first | omega | (simp; omega))) | (simp [List.take_of_length_le]; omega)⟩, ?_⟩), ?_⟩; refine stp ?_; try with_reducible exact True.intro
          rw [mxE]
          have e : ((pwM m j).1 = 1 ∧ (pwM m j).2.1 = 0 ∧ (pwM m j).2.2.1 = 0 ∧ (pwM m j).2.2.2 = 1) ↔ j + 1 = N := by
            rw [← g2]
            constructor
            · rintro ⟨h1, h2, h3, h4⟩
              exact Prod.ext h1 (Prod.ext h2 (Prod.ext h3 h4))
            · intro h; rw [h]; exact ⟨rfl, rfl, rfl, rfl⟩
          by_cases h2 : j + 1 = N
          · refine brT (decide_eq_true (e.2 h2)) ?_
            refine stp ?_; try with_reducible exact True.intro
            subst h2
            rfl
          · refine brF (decide_eq_false (fun h => h2 (e.1 h))) ?_
            have w3 := TimesMatrix g1 hm (hpw (j + 1) (by omega)).1
            refine stp ?_; try with_reducible exact True.intro
            refine useT w3.toT ?_ ⟨⟨rfl, rfl, rfl, rfl, trivial⟩, ⟨rfl, rfl, rfl, rfl, trivial⟩, trivial⟩
            refine stp ?_; try with_reducible exact True.intro
            refine ⟨j + 1, (fitK [] [0, 1]), by omega, by first | ((try dsimp only); omega) | (simp; omega)⟩
        · omega
      | true =>
        cases q2 with
        | true => exact absurd hq (by decide)
        | false =>
          refine brT k1 ?_
          refine stp ?_; try with_reducible exact True.intro
          refine brF k2 ?_
          refine stp ?_; try with_reducible exact True.intro
          refine ⟨Nat, fun j => j < N, fun j => 12 - j, fun j => [(1, .pcell 0 0), (4, .pcell 1 0), (5, .i ((j + 1 : Nat) : Int))], fun j => [.vars [.i m.1, .i m.2.1, .i m.2.2.1, .i m.2.2.2], .vars [.i (pwM m j).1, .i (pwM m j).2.1, .i (pwM m j).2.2.1, .i (pwM m j).2.2.2]], ⟨0, (fitK [] [0, 1]), n1⟩, fun j hj => ?_⟩
          dsimp only at hj ⊢
          obtain ⟨g1, g2⟩ := hpw j hj
          refine stp ?_; try with_reducible exact True.intro
          refine Br.mk (fun h1 => ?_) (fun h1 => ?_) <;> simp [-Int.ofNat_toNat] at h1
          · refine stp ?_; try with_reducible exact True.intro
            refine .inl ⟨_, _, oneI, by repeat (first | exact trivial | refine ⟨by first | exact rfl | exact trivial | exact ⟨_, rfl, rfl⟩ | exact ⟨_, _, rfl, by first | (simp; done) | (simp; omega), by first | (simp; done) | (simp [List.take_of_length_le]; done) | (rw [List.drop_zero]; exact List.take_of_length_le (by first | omega | (simp; omega))) | (simp [List.take_of_length_le]; omega)⟩ | exact ⟨_, rfl, by first | (simp; done) | (simp; omega), by first | (simp; done) | (simp [List.take_of_length_le]; done) | (rw [List.drop_zero]; exact List.take_of_length_le (by first | omega | (simp; omega))) | (simp [List.take_of_length_le]; omega)⟩, ?_⟩), ?_⟩; refine stp ?_; try with_reducible exact True.intro
            rw [mxE]
            have e : ((pwM m j).1 = 1 ∧ (pwM m j).2.1 = 0 ∧ (pwM m j).2.2.1 = 0 ∧ (pwM m j).2.2.2 = 1) ↔ j + 1 = N := by
              rw [← g2]
              constructor
              · rintro ⟨h1, h2, h3, h4⟩
                exact Prod.ext h1 (Prod.ext h2 (Prod.ext h3 h4))
              · intro h; rw [h]; exact ⟨rfl, rfl, rfl, rfl⟩
            by_cases h2 : j + 1 = N
            · refine brT (decide_eq_true (e.2 h2)) ?_
              refine stp ?_; try with_reducible exact True.intro
              subst h2
              rfl
            · refine brF (decide_eq_false (fun h => h2 (e.1 h))) ?_
              have w3 := TimesMatrix g1 hm (hpw (j + 1) (by omega)).1
              refine stp ?_; try with_reducible exact True.intro
              refine useT w3.toT ?_ ⟨⟨rfl, rfl, rfl, rfl, trivial⟩, ⟨rfl, rfl, rfl, rfl, trivial⟩, trivial⟩
              refine stp ?_; try with_reducible exact True.intro
              refine ⟨j + 1, (fitK [] [0, 1]), by omega, by first | ((try dsimp only); omega) | (simp; omega)⟩
          · omega
theorem isM_B {m : Mx} (h : isM m = true) : MxB m := (isM_iff.1 (show isM (m.1, m.2.1, m.2.2.1, m.2.2.2) = true from h)).1
theorem OrderOfS (m : Mx) : ConS Tryd.prog 33 [mxV m] (.i (ordV m)) := by
  have w := IsMatrixS m
  have wk := KindOfS m
  unfold ordV
  cases hm : isM m with
  | false =>
    rw [hm] at w
    obtain ⟨a, b, c, d⟩ := m
    refine conS_of hmix hTab Tryd.func33 rfl rfl (by kernel_rfl) (by show 1 ≤ Tryd.f33.ntmps; decide) rfl ?_
    dsimp only [mxV] at w ⊢
    refine stp ?_; try with_reducible exact True.intro
    refine useT w.toT ?_ ⟨⟨rfl, rfl, rfl, rfl, trivial⟩, trivial⟩
    refine stp ?_; try with_reducible exact True.intro
    rfl
  | true =>
    rw [hm] at w
    have hk := (kin_per hm).2
    unfold kTS at hk
    generalize kinM m = k at *
    rw [if_neg (by decide)]
    have kf : ∃ q1 q2 : Bool, (k.toList == kTw.toList) = q1 ∧ (k.toList == kSt.toList) = q2 ∧ (q1 || q2) = !perM m := ⟨_, _, rfl, rfl, hk⟩
    obtain ⟨q1, q2, k1, k2, hq⟩ := kf
    cases hp : perM m with
    | false =>
      rw [hp] at hq
      obtain ⟨a, b, c, d⟩ := m
      refine conS_of hmix hTab Tryd.func33 rfl rfl (by kernel_rfl) (by show 1 ≤ Tryd.f33.ntmps; decide) rfl ?_
      dsimp only [mxV] at w wk ⊢
      refine stp ?_; try with_reducible exact True.intro
      refine useT w.toT ?_ ⟨⟨rfl, rfl, rfl, rfl, trivial⟩, trivial⟩
      refine stp ?_; try with_reducible exact True.intro
      refine useT wk.toT ?_ ⟨⟨rfl, rfl, rfl, rfl, trivial⟩, trivial⟩
      cases q1 with
      | true =>
        refine brT k1 ?_
        refine stp ?_; try with_reducible exact True.intro
        rfl
      | false =>
        cases q2 with
        | false => exact absurd hq (by decide)
        | true =>
          refine brF k1 ?_
          refine stp ?_; try with_reducible exact True.intro
          refine useT wk.toT ?_ ⟨⟨rfl, rfl, rfl, rfl, trivial⟩, trivial⟩
          refine brT k2 ?_
          refine stp ?_; try with_reducible exact True.intro
          rfl
    | true =>
      rw [hp] at hq
      obtain ⟨n1, n6, hpw⟩ := pw_ok hp
      rw [if_pos rfl]
      generalize hN : ordN m = N at *
      refine conS_of hmix hTab Tryd.func33 rfl rfl (by kernel_rfl) (by show 1 ≤ Tryd.f33.ntmps; decide) rfl ?_
      dsimp only [mxV] at w wk ⊢
      refine stp ?_; try with_reducible exact True.intro
      refine useT w.toT ?_ ⟨⟨rfl, rfl, rfl, rfl, trivial⟩, trivial⟩
      refine stp ?_; try with_reducible exact True.intro
      refine useT wk.toT ?_ ⟨⟨rfl, rfl, rfl, rfl, trivial⟩, trivial⟩
      cases q1 with
      | true => exact absurd hq (by simp)
      | false =>
        cases q2 with
        | true => exact absurd hq (by decide)
        | false =>
          refine brF k1 ?_
          refine stp ?_; try with_reducible exact True.intro
          refine useT wk.toT ?_ ⟨⟨rfl, rfl, rfl, rfl, trivial⟩, trivial⟩
          refine brF k2 ?_
          refine stp ?_; try with_reducible exact True.intro
          refine ⟨Nat, fun j => j < N, fun j => 12 - j, fun j => [(1, .pcell 0 0), (3, .pcell 1 0), (4, .i ((j + 1 : Nat) : Int))], fun j => [.vars [.i m.1, .i m.2.1, .i m.2.2.1, .i m.2.2.2], .vars [.i (pwM m j).1, .i (pwM m j).2.1, .i (pwM m j).2.2.1, .i (pwM m j).2.2.2]], ⟨0, (fitK [] [0, 1]), n1⟩, fun j hj => ?_⟩
          dsimp only at hj ⊢
          obtain ⟨g1, g2⟩ := hpw j hj
          have w3 := l13Times (isM_B g1) (isM_B hm)
          have e : ((pwM m j).1 = 1 ∧ (pwM m j).2.1 = 0 ∧ (pwM m j).2.2.1 = 0) ↔ j + 1 = N := by
            rw [← g2]
            constructor
            · rintro ⟨h1, h2, h3⟩
              have := (isM_iff.1 (show isM ((pwM m j).1, (pwM m j).2.1, (pwM m j).2.2.1, (pwM m j).2.2.2) = true from g1)).2
              rw [h1, h2] at this
              exact Prod.ext h1 (Prod.ext h2 (Prod.ext h3 (by show (pwM m j).2.2.2 = 1; omega)))
            · intro h; rw [h]; exact ⟨rfl, rfl, rfl⟩
          refine stp ?_; try with_reducible exact True.intro
          refine Br.mk (fun h1 => ?_) (fun h1 => ?_) <;> simp [-Int.ofNat_toNat] at h1
          · refine stp ?_; try with_reducible exact True.intro
            refine Br.mk (fun h2 => ?_) (fun h2 => ?_) <;> simp [-Int.ofNat_toNat] at h2
            · refine stp ?_; try with_reducible exact True.intro
              refine Br.mk (fun h3 => ?_) (fun h3 => ?_) <;> simp [-Int.ofNat_toNat] at h3
              · refine stp ?_; try with_reducible exact True.intro
                refine Br.mk (fun h4 => ?_) (fun h4 => ?_) <;> simp [-Int.ofNat_toNat] at h4
                · refine stp ?_; try with_reducible exact True.intro
                  obtain rfl := e.1 ⟨h2, h3, h4⟩
                  rfl
                · have h9 : j + 1 ≠ N := fun h => absurd (e.2 h) (by omega)
                  refine stp ?_; try with_reducible exact True.intro
                  refine useT w3.toT ?_ ⟨⟨rfl, rfl, rfl, rfl, trivial⟩, ⟨rfl, rfl, rfl, rfl, trivial⟩, trivial⟩
                  refine stp ?_; try with_reducible exact True.intro
                  refine ⟨j + 1, (fitK [] [0, 1]), by omega, by first | ((try dsimp only); omega) | (simp; omega)⟩
              · refine stp ?_; try with_reducible exact True.intro
                have h9 : j + 1 ≠ N := fun h => absurd (e.2 h) (by omega)
                refine stp ?_; try with_reducible exact True.intro
                refine useT w3.toT ?_ ⟨⟨rfl, rfl, rfl, rfl, trivial⟩, ⟨rfl, rfl, rfl, rfl, trivial⟩, trivial⟩
                refine stp ?_; try with_reducible exact True.intro
                refine ⟨j + 1, (fitK [] [0, 1]), by omega, by first | ((try dsimp only); omega) | (simp; omega)⟩
            · refine stp ?_; try with_reducible exact True.intro
              have h9 : j + 1 ≠ N := fun h => absurd (e.2 h) (by omega)
              refine stp ?_; try with_reducible exact True.intro
              refine useT w3.toT ?_ ⟨⟨rfl, rfl, rfl, rfl, trivial⟩, ⟨rfl, rfl, rfl, rfl, trivial⟩, trivial⟩
              refine stp ?_; try with_reducible exact True.intro
              refine ⟨j + 1, (fitK [] [0, 1]), by omega, by first | ((try dsimp only); omega) | (simp; omega)⟩
          · omega
end Go.Proofs.YtffiddkignmobaaDoorTv
end
section
open Go Go.Proofs.YtffiddkignmobaaDoorVe Go.Proofs.YtffiddkignmobaaDoorTv Go.Proofs
namespace Go.Proofs.YtffiddkignmobaaDoorTv
set_option maxRecDepth 8000
set_option maxHeartbeats 2000000
theorem joi_one (a s : ByteArray) : joi [a] s = a := by
  unfold joi
  apply ByteArray.ext
  simp [Lib.join]
theorem joi_cons (a b : ByteArray) (l : List ByteArray) (s : ByteArray) : joi (a :: b :: l) s = a ++ s ++ joi (b :: l) s := by
  unfold joi
  apply ByteArray.ext
  simp only [ByteArray.data_append, List.map_cons, Lib.join_cons]
  apply Array.toList_inj.1
  simp [Lib.joinTail]
theorem ba_lit (a b : List UInt8) : (⟨a.toArray⟩ : ByteArray) ++ (⟨b.toArray⟩ : ByteArray) = ⟨(a ++ b).toArray⟩ := by
  apply ByteArray.ext
  simp [ByteArray.data_append]
theorem kin_size (m : Mx) : (kinM m).size ≤ 8 := by
  unfold kinM
  repeat' split
  all_goals decide +kernel
def fixS (m : Mx) : Int × Int := if m.1 - (trM m).tdiv 2 = 0 ∧ m.2.2.1 = 0 then slo m.2.1 (m.2.2.2 - (trM m).tdiv 2) else slo (m.1 - (trM m).tdiv 2) m.2.2.1
theorem fxL_eq {m : Mx} (h : twM m = true) : fxL m = [slp (fixS m)] := by
  unfold fxL fixS
  rw [if_pos h]
  split <;> rfl
theorem fxL_no {m : Mx} (h : twM m = false) : fxL m = [] := by
  unfold fxL
  rw [h]; rfl
theorem stx_size (s : Int × Int) : (stx s).size ≤ 43 := by
  unfold stx
  split
  · rename_i h
    unfold isSlp at h
    have h := of_decide_eq_true h
    have k1 := ito_s s.1 (by omega)
    have k2 := ito_s s.2 (by omega)
    simp only [ByteArray.size_append, szA, List.size_toArray, List.length_cons, List.length_nil]
    omega
  · exact Nat.zero_le _
def fixM (m : Mx) : ByteArray := if twM m = true then stx (fixS m) else ⟨#[45]⟩
theorem fixM_size (m : Mx) : (fixM m).size ≤ 43 := by
  unfold fixM
  split
  · exact stx_size _
  · decide
theorem ordV_rng (m : Mx) : -1 ≤ ordV m ∧ ordV m ≤ 6 := by
  unfold ordV
  split
  · omega
  · split
    · rename_i h
      have := pw_ok h
      omega
    · omega
def dmT (a k o f : ByteArray) : ByteArray := ⟨#[116, 114, 97, 99, 101, 32]⟩ ++ a ++ ⟨#[32]⟩ ++ k ++ ⟨#[32, 111, 114, 100, 101, 114, 32]⟩ ++ o ++ ⟨#[32, 102, 105, 120, 101, 100, 32]⟩ ++ f
theorem dmT_joi (a k o f : ByteArray) : joi [⟨#[116, 114, 97, 99, 101]⟩, a, k, ⟨#[111, 114, 100, 101, 114]⟩, o, ⟨#[102, 105, 120, 101, 100]⟩, f] ⟨#[32]⟩ = dmT a k o f := by
  simp only [joi_cons, joi_one, dmT]
  apply ByteArray.ext
  apply Array.toList_inj.1
  simp [ByteArray.data_append]
def dmM (m : Mx) : ByteArray := if isM m = false then ⟨#[]⟩ else dmT (ito (trM m)) (kinM m) (ito (ordV m)) (fixM m)
theorem DescribeMatrixS (m : Mx) : ConS Tryd.prog 9 [mxV m] (.s (dmM m)) := by
  have w := IsMatrixS m
  have w2 := TraceOfS m
  have w3 := KindOfS m
  have w4 := OrderOfS m
  unfold dmM
  cases hm : isM m with
  | false =>
    rw [hm] at w
    obtain ⟨a, b, c, d⟩ := m
    refine conS_of hmix hTab Tryd.func9 rfl rfl (by kernel_rfl) (by show 1 ≤ Tryd.f9.ntmps; decide) rfl ?_
    dsimp only [mxV] at w ⊢
    refine stp ?_; try with_reducible exact True.intro
    refine useT w.toT ?_ ⟨⟨rfl, rfl, rfl, rfl, trivial⟩, trivial⟩
    refine stp ?_; try with_reducible exact True.intro
    rfl
  | true =>
    rw [hm] at w
    rw [hm, if_pos rfl] at w2
    rw [if_neg (by decide)]
    have z1 := kin_size m
    have z2 := ordV_rng m
    have z4 := (isM_B hm).a
    have z5 := (isM_B hm).d
    have z6 : -2000 ≤ trM m ∧ trM m ≤ 2000 := by unfold trM; omega
    have s1 := ito_s (trM m) (by omega)
    have s2 := ito_s (ordV m) (by omega)
    generalize kinM m = k at *
    generalize ordV m = o at *
    generalize trM m = t at *
    unfold fixM
    cases ht : twM m with
    | false =>
      have w1 := fxL_no ht ▸ FixedSlopesS m
      rw [if_neg (by decide)]
      obtain ⟨a, b, c, d⟩ := m
      refine conS_of hmix hTab Tryd.func9 rfl rfl (by kernel_rfl) (by show 1 ≤ Tryd.f9.ntmps; decide) rfl ?_
      dsimp only [mxV] at w w1 w2 w3 w4 ⊢
      refine stp ?_; try with_reducible exact True.intro
      refine useT w.toT ?_ ⟨⟨rfl, rfl, rfl, rfl, trivial⟩, trivial⟩
      refine stp ?_; try with_reducible exact True.intro
      refine useT w1 ?_ ⟨⟨rfl, rfl, rfl, rfl, trivial⟩, trivial⟩
      refine stp ?_; try with_reducible exact True.intro
      refine .inl ⟨_, _, w2, ⟨⟨rfl, rfl, rfl, rfl, trivial⟩, trivial⟩, ?_⟩; refine stp ?_; try with_reducible exact True.intro
      refine .inl ⟨_, _, FormatIntS t (by omega) (by omega), by repeat (first | exact trivial | refine ⟨by first | exact rfl | exact trivial | exact ⟨_, rfl, rfl⟩ | exact ⟨_, _, rfl, by first | (simp; done) | (simp; omega), by first | (simp; done) | (simp [List.take_of_length_le]; done) | (rw [List.drop_zero]; exact List.take_of_length_le (by first | omega | (simp; omega))) | (simp [List.take_of_length_le]; omega)⟩ | exact ⟨_, rfl, by first | (simp; done) | (simp; omega), by first | (simp; done) | (simp [List.take_of_length_le]; done) | (rw [List.drop_zero]; exact List.take_of_length_le (by first | omega | (simp; omega))) | (simp [List.take_of_length_le]; omega)⟩, ?_⟩), ?_⟩; refine stp ?_; try with_reducible exact True.intro
      refine ⟨by (try simp only [ByteArray.size_append, szA, List.size_toArray, List.length_cons, List.length_nil, Nat.zero_add, Nat.reduceAdd]); omega, ?_⟩; refine stp ?_; try with_reducible exact True.intro
      refine ⟨by (try simp only [ByteArray.size_append, szA, List.size_toArray, List.length_cons, List.length_nil, Nat.zero_add, Nat.reduceAdd]); omega, ?_⟩; refine stp ?_; try with_reducible exact True.intro
      refine .inl ⟨_, _, w3, ⟨⟨rfl, rfl, rfl, rfl, trivial⟩, trivial⟩, ?_⟩; refine stp ?_; try with_reducible exact True.intro
      refine ⟨by (try simp only [ByteArray.size_append, szA, List.size_toArray, List.length_cons, List.length_nil, Nat.zero_add, Nat.reduceAdd]); omega, ?_⟩; refine stp ?_; try with_reducible exact True.intro
      refine ⟨by (try simp only [ByteArray.size_append, szA, List.size_toArray, List.length_cons, List.length_nil, Nat.zero_add, Nat.reduceAdd]); omega, ?_⟩; refine stp ?_; try with_reducible exact True.intro
      refine .inl ⟨_, _, w4, ⟨⟨rfl, rfl, rfl, rfl, trivial⟩, trivial⟩, ?_⟩; refine stp ?_; try with_reducible exact True.intro
      refine .inl ⟨_, _, FormatIntS o (by omega) (by omega), by repeat (first | exact trivial | refine ⟨by first | exact rfl | exact trivial | exact ⟨_, rfl, rfl⟩ | exact ⟨_, _, rfl, by first | (simp; done) | (simp; omega), by first | (simp; done) | (simp [List.take_of_length_le]; done) | (rw [List.drop_zero]; exact List.take_of_length_le (by first | omega | (simp; omega))) | (simp [List.take_of_length_le]; omega)⟩ | exact ⟨_, rfl, by first | (simp; done) | (simp; omega), by first | (simp; done) | (simp [List.take_of_length_le]; done) | (rw [List.drop_zero]; exact List.take_of_length_le (by first | omega | (simp; omega))) | (simp [List.take_of_length_le]; omega)⟩, ?_⟩), ?_⟩; refine stp ?_; try with_reducible exact True.intro
      refine ⟨by (try simp only [ByteArray.size_append, szA, List.size_toArray, List.length_cons, List.length_nil, Nat.zero_add, Nat.reduceAdd]); omega, ?_⟩; refine stp ?_; try with_reducible exact True.intro
      refine ⟨by (try simp only [ByteArray.size_append, szA, List.size_toArray, List.length_cons, List.length_nil, Nat.zero_add, Nat.reduceAdd]); omega, ?_⟩; refine stp ?_; try with_reducible exact True.intro
      refine ⟨by (try simp only [ByteArray.size_append, szA, List.size_toArray, List.length_cons, List.length_nil, Nat.zero_add, Nat.reduceAdd]); omega, ?_⟩; refine stp ?_; try with_reducible exact True.intro
      rfl
    | true =>
      have w1 := FixedSlopesS m
      rw [fxL_eq ht] at w1
      rw [if_pos rfl]
      have z3 := stx_size (fixS m)
      have w5 := SlopeTextS (fixS m)
      generalize fixS m = x at *
      obtain ⟨a, b, c, d⟩ := m
      refine conS_of hmix hTab Tryd.func9 rfl rfl (by kernel_rfl) (by show 1 ≤ Tryd.f9.ntmps; decide) rfl ?_
      dsimp only [mxV, slp, slV] at w w1 w2 w3 w4 w5 ⊢
      refine stp ?_; try with_reducible exact True.intro
      refine useT w.toT ?_ ⟨⟨rfl, rfl, rfl, rfl, trivial⟩, trivial⟩
      refine stp ?_; try with_reducible exact True.intro
      refine useT w1 ?_ ⟨⟨rfl, rfl, rfl, rfl, trivial⟩, trivial⟩
      refine stp ?_; try with_reducible exact True.intro
      refine useT w5.toT ?_ ⟨⟨rfl, rfl, trivial⟩, trivial⟩
      refine stp ?_; try with_reducible exact True.intro
      refine .inl ⟨_, _, w2, ⟨⟨rfl, rfl, rfl, rfl, trivial⟩, trivial⟩, ?_⟩; refine stp ?_; try with_reducible exact True.intro
      refine .inl ⟨_, _, FormatIntS t (by omega) (by omega), by repeat (first | exact trivial | refine ⟨by first | exact rfl | exact trivial | exact ⟨_, rfl, rfl⟩ | exact ⟨_, _, rfl, by first | (simp; done) | (simp; omega), by first | (simp; done) | (simp [List.take_of_length_le]; done) | (rw [List.drop_zero]; exact List.take_of_length_le (by first | omega | (simp; omega))) | (simp [List.take_of_length_le]; omega)⟩ | exact ⟨_, rfl, by first | (simp; done) | (simp; omega), by first | (simp; done) | (simp [List.take_of_length_le]; done) | (rw [List.drop_zero]; exact List.take_of_length_le (by first | omega | (simp; omega))) | (simp [List.take_of_length_le]; omega)⟩, ?_⟩), ?_⟩; refine stp ?_; try with_reducible exact True.intro
      refine ⟨by (try simp only [ByteArray.size_append, szA, List.size_toArray, List.length_cons, List.length_nil, Nat.zero_add, Nat.reduceAdd]); omega, ?_⟩; refine stp ?_; try with_reducible exact True.intro
      refine ⟨by (try simp only [ByteArray.size_append, szA, List.size_toArray, List.length_cons, List.length_nil, Nat.zero_add, Nat.reduceAdd]); omega, ?_⟩; refine stp ?_; try with_reducible exact True.intro
      refine .inl ⟨_, _, w3, ⟨⟨rfl, rfl, rfl, rfl, trivial⟩, trivial⟩, ?_⟩; refine stp ?_; try with_reducible exact True.intro
      refine ⟨by (try simp only [ByteArray.size_append, szA, List.size_toArray, List.length_cons, List.length_nil, Nat.zero_add, Nat.reduceAdd]); omega, ?_⟩; refine stp ?_; try with_reducible exact True.intro
      refine ⟨by (try simp only [ByteArray.size_append, szA, List.size_toArray, List.length_cons, List.length_nil, Nat.zero_add, Nat.reduceAdd]); omega, ?_⟩; refine stp ?_; try with_reducible exact True.intro
      refine .inl ⟨_, _, w4, ⟨⟨rfl, rfl, rfl, rfl, trivial⟩, trivial⟩, ?_⟩; refine stp ?_; try with_reducible exact True.intro
      refine .inl ⟨_, _, FormatIntS o (by omega) (by omega), by repeat (first | exact trivial | refine ⟨by first | exact rfl | exact trivial | exact ⟨_, rfl, rfl⟩ | exact ⟨_, _, rfl, by first | (simp; done) | (simp; omega), by first | (simp; done) | (simp [List.take_of_length_le]; done) | (rw [List.drop_zero]; exact List.take_of_length_le (by first | omega | (simp; omega))) | (simp [List.take_of_length_le]; omega)⟩ | exact ⟨_, rfl, by first | (simp; done) | (simp; omega), by first | (simp; done) | (simp [List.take_of_length_le]; done) | (rw [List.drop_zero]; exact List.take_of_length_le (by first | omega | (simp; omega))) | (simp [List.take_of_length_le]; omega)⟩, ?_⟩), ?_⟩; refine stp ?_; try with_reducible exact True.intro
      refine ⟨by (try simp only [ByteArray.size_append, szA, List.size_toArray, List.length_cons, List.length_nil, Nat.zero_add, Nat.reduceAdd]); omega, ?_⟩; refine stp ?_; try with_reducible exact True.intro
      refine ⟨by (try simp only [ByteArray.size_append, szA, List.size_toArray, List.length_cons, List.length_nil, Nat.zero_add, Nat.reduceAdd]); omega, ?_⟩; refine stp ?_; try with_reducible exact True.intro
      refine ⟨by (try simp only [ByteArray.size_append, szA, List.size_toArray, List.length_cons, List.length_nil, Nat.zero_add, Nat.reduceAdd]); omega, ?_⟩; refine stp ?_; try with_reducible exact True.intro
      rfl
theorem DescribeMatrixI (m : Mx) : ConS Tryd.prog 11 [mxV m] (.s (dmM m)) := by
  have w := IsMatrixI m
  have w2 := TraceOfI m
  have w3 := KindOfI m
  have w4 := OrderOfI m
  unfold dmM
  cases hm : isM m with
  | false =>
    rw [hm] at w
    obtain ⟨a, b, c, d⟩ := m
    refine conS_of hmix hTab Tryd.func11 rfl rfl (by kernel_rfl) (by show 1 ≤ Tryd.f11.ntmps; decide) rfl ?_
    dsimp only [mxV] at w ⊢
    refine stp ?_; try with_reducible exact True.intro
    refine useT w.toT ?_ ⟨⟨rfl, rfl, rfl, rfl, trivial⟩, trivial⟩
    refine stp ?_; try with_reducible exact True.intro
    rfl
  | true =>
    rw [hm] at w
    rw [hm, if_pos rfl] at w2
    rw [if_neg (by decide)]
    have z1 := kin_size m
    have z2 := ordV_rng m
    have z4 := (isM_B hm).a
    have z5 := (isM_B hm).d
    have z6 : -2000 ≤ trM m ∧ trM m ≤ 2000 := by unfold trM; omega
    have s1 := ito_s (trM m) (by omega)
    have s2 := ito_s (ordV m) (by omega)
    generalize kinM m = k at *
    generalize ordV m = o at *
    generalize trM m = t at *
    unfold fixM
    cases ht : twM m with
    | false =>
      have w1 := FixedSlopesI0 ht
      rw [if_neg (by decide)]
      obtain ⟨a, b, c, d⟩ := m
      refine conS_of hmix hTab Tryd.func11 rfl rfl (by kernel_rfl) (by show 1 ≤ Tryd.f11.ntmps; decide) rfl ?_
      dsimp only [mxV] at w w1 w2 w3 w4 ⊢
      refine stp ?_; try with_reducible exact True.intro
      refine useT w.toT ?_ ⟨⟨rfl, rfl, rfl, rfl, trivial⟩, trivial⟩
      refine stp ?_; try with_reducible exact True.intro
      refine useT w1 ?_ ⟨⟨rfl, rfl, rfl, rfl, trivial⟩, trivial⟩
      refine stp ?_; try with_reducible exact True.intro
      refine .inl ⟨_, _, w2, ⟨⟨rfl, rfl, rfl, rfl, trivial⟩, trivial⟩, ?_⟩; refine stp ?_; try with_reducible exact True.intro
      refine .inl ⟨_, _, FormatIntI t (by omega) (by omega), by repeat (first | exact trivial | refine ⟨by first | exact rfl | exact trivial | exact ⟨_, rfl, rfl⟩ | exact ⟨_, _, rfl, by first | (simp; done) | (simp; omega), by first | (simp; done) | (simp [List.take_of_length_le]; done) | (rw [List.drop_zero]; exact List.take_of_length_le (by first | omega | (simp; omega))) | (simp [List.take_of_length_le]; omega)⟩ | exact ⟨_, rfl, by first | (simp; done) | (simp; omega), by first | (simp; done) | (simp [List.take_of_length_le]; done) | (rw [List.drop_zero]; exact List.take_of_length_le (by first | omega | (simp; omega))) | (simp [List.take_of_length_le]; omega)⟩, ?_⟩), ?_⟩; refine stp ?_; try with_reducible exact True.intro
      refine .inl ⟨_, _, w3, ⟨⟨rfl, rfl, rfl, rfl, trivial⟩, trivial⟩, ?_⟩; refine stp ?_; try with_reducible exact True.intro
      refine .inl ⟨_, _, w4, ⟨⟨rfl, rfl, rfl, rfl, trivial⟩, trivial⟩, ?_⟩; refine stp ?_; try with_reducible exact True.intro
      refine .inl ⟨_, _, FormatIntI o (by omega) (by omega), by repeat (first | exact trivial | refine ⟨by first | exact rfl | exact trivial | exact ⟨_, rfl, rfl⟩ | exact ⟨_, _, rfl, by first | (simp; done) | (simp; omega), by first | (simp; done) | (simp [List.take_of_length_le]; done) | (rw [List.drop_zero]; exact List.take_of_length_le (by first | omega | (simp; omega))) | (simp [List.take_of_length_le]; omega)⟩ | exact ⟨_, rfl, by first | (simp; done) | (simp; omega), by first | (simp; done) | (simp [List.take_of_length_le]; done) | (rw [List.drop_zero]; exact List.take_of_length_le (by first | omega | (simp; omega))) | (simp [List.take_of_length_le]; omega)⟩, ?_⟩), ?_⟩; refine stp ?_; try with_reducible exact True.intro
      refine useT ((JoinI [⟨#[116, 114, 97, 99, 101]⟩, ito t, k, ⟨#[111, 114, 100, 101, 114]⟩, ito o, ⟨#[102, 105, 120, 101, 100]⟩, ⟨#[45]⟩] ⟨#[32]⟩ (by rw [dmT_joi]; unfold dmT; simp only [ByteArray.size_append, szA, List.size_toArray, List.length_cons, List.length_nil]; omega)).toT) ?_; try with_reducible exact True.intro
      rw [dmT_joi]
    | true =>
      have w1 := FixedSlopesI1 ht
      rw [fxL_eq ht] at w1
      rw [if_pos rfl]
      have z3 := stx_size (fixS m)
      have w5 := SlopeTextI (fixS m)
      generalize fixS m = x at *
      obtain ⟨a, b, c, d⟩ := m
      refine conS_of hmix hTab Tryd.func11 rfl rfl (by kernel_rfl) (by show 1 ≤ Tryd.f11.ntmps; decide) rfl ?_
      dsimp only [mxV, slp, slV] at w w1 w2 w3 w4 w5 ⊢
      refine stp ?_; try with_reducible exact True.intro
      refine useT w.toT ?_ ⟨⟨rfl, rfl, rfl, rfl, trivial⟩, trivial⟩
      refine stp ?_; try with_reducible exact True.intro
      refine useT w1 ?_ ⟨⟨rfl, rfl, rfl, rfl, trivial⟩, trivial⟩
      refine stp ?_; try with_reducible exact True.intro
      refine useT w5.toT ?_ ⟨⟨rfl, rfl, trivial⟩, trivial⟩
      refine stp ?_; try with_reducible exact True.intro
      refine .inl ⟨_, _, w2, ⟨⟨rfl, rfl, rfl, rfl, trivial⟩, trivial⟩, ?_⟩; refine stp ?_; try with_reducible exact True.intro
      refine .inl ⟨_, _, FormatIntI t (by omega) (by omega), by repeat (first | exact trivial | refine ⟨by first | exact rfl | exact trivial | exact ⟨_, rfl, rfl⟩ | exact ⟨_, _, rfl, by first | (simp; done) | (simp; omega), by first | (simp; done) | (simp [List.take_of_length_le]; done) | (rw [List.drop_zero]; exact List.take_of_length_le (by first | omega | (simp; omega))) | (simp [List.take_of_length_le]; omega)⟩ | exact ⟨_, rfl, by first | (simp; done) | (simp; omega), by first | (simp; done) | (simp [List.take_of_length_le]; done) | (rw [List.drop_zero]; exact List.take_of_length_le (by first | omega | (simp; omega))) | (simp [List.take_of_length_le]; omega)⟩, ?_⟩), ?_⟩; refine stp ?_; try with_reducible exact True.intro
      refine .inl ⟨_, _, w3, ⟨⟨rfl, rfl, rfl, rfl, trivial⟩, trivial⟩, ?_⟩; refine stp ?_; try with_reducible exact True.intro
      refine .inl ⟨_, _, w4, ⟨⟨rfl, rfl, rfl, rfl, trivial⟩, trivial⟩, ?_⟩; refine stp ?_; try with_reducible exact True.intro
      refine .inl ⟨_, _, FormatIntI o (by omega) (by omega), by repeat (first | exact trivial | refine ⟨by first | exact rfl | exact trivial | exact ⟨_, rfl, rfl⟩ | exact ⟨_, _, rfl, by first | (simp; done) | (simp; omega), by first | (simp; done) | (simp [List.take_of_length_le]; done) | (rw [List.drop_zero]; exact List.take_of_length_le (by first | omega | (simp; omega))) | (simp [List.take_of_length_le]; omega)⟩ | exact ⟨_, rfl, by first | (simp; done) | (simp; omega), by first | (simp; done) | (simp [List.take_of_length_le]; done) | (rw [List.drop_zero]; exact List.take_of_length_le (by first | omega | (simp; omega))) | (simp [List.take_of_length_le]; omega)⟩, ?_⟩), ?_⟩; refine stp ?_; try with_reducible exact True.intro
      refine useT ((JoinI [⟨#[116, 114, 97, 99, 101]⟩, ito t, k, ⟨#[111, 114, 100, 101, 114]⟩, ito o, ⟨#[102, 105, 120, 101, 100]⟩, stx x] ⟨#[32]⟩ (by rw [dmT_joi]; unfold dmT; simp only [ByteArray.size_append, szA, List.size_toArray, List.length_cons, List.length_nil]; omega)).toT) ?_; try with_reducible exact True.intro
      rw [dmT_joi]
theorem toMatrix (m : Mx) : ConS Tryd.prog 10 [mxV m] (mxV m) := by
  obtain ⟨a, b, c, d⟩ := m
  refine conS_of hmix hTab Tryd.func10 rfl rfl (by kernel_rfl) (by show 1 ≤ Tryd.f10.ntmps; decide) rfl ?_
  dsimp only [mxV]
  refine stp ?_; try with_reducible exact True.intro
  rfl
theorem FnExactDescribeMatrix (m : Mx) : ConS Tryd.prog 3 [mxV m] (.b true) := by
  have w := toMatrix m
  have w1 := DescribeMatrixI m
  have w2 := DescribeMatrixS m
  generalize dmM m = t at *
  obtain ⟨a, b, c, d⟩ := m
  refine conS_of hmix hTab Tryd.func3 rfl rfl (by kernel_rfl) (by show 1 ≤ Tryd.f3.ntmps; decide) rfl ?_
  dsimp only [mxV] at *
  refine stp ?_; try with_reducible exact True.intro
  refine useT w.toT ?_ ⟨⟨rfl, rfl, rfl, rfl, trivial⟩, trivial⟩
  refine useT w2.toT ?_ ⟨⟨rfl, rfl, rfl, rfl, trivial⟩, trivial⟩
  refine useT w.toT ?_ ⟨⟨rfl, rfl, rfl, rfl, trivial⟩, trivial⟩
  refine useT w1.toT ?_ ⟨⟨rfl, rfl, rfl, rfl, trivial⟩, trivial⟩
  rw [show (!t.toList == t.toList) = false by simp]
  refine stp ?_; try with_reducible exact True.intro
end Go.Proofs.YtffiddkignmobaaDoorTv
end
