/- What functions of the program give: each contract holds for all arguments that its own sentence names. -/
import Derived.Test.YtaoepnmhflmhhaaDoorTv5
import Derived.Test.YtaoepnmhflmhhaaDoorProg
import Derived.Shelf.Strings.OnBuilder
import Derived.Shelf.LaysM
import Derived.Shelf.Strconv.Itoa3
import Derived.Lib.ItoaLen
set_option linter.unusedVariables false
set_option linter.unusedSimpArgs false
section
open Go Go.Proofs.YtaoepnmhflmhhaaDoorVe Go.Proofs.YtaoepnmhflmhhaaDoorTv Go.Proofs
namespace Go.Proofs.YtaoepnmhflmhhaaDoorTv
set_option maxRecDepth 8000
set_option maxHeartbeats 2000000
def tab : List (Nat × TE) := [(1, ⟨.fnil, .other, 8⟩), (3, ⟨.int .i64, .int .i64, 8⟩), (4, ⟨.bool, .bool, 1⟩), (5, ⟨.int .u8, .int .u8, 1⟩), (9, ⟨.str, .str, 16⟩), (22, ⟨.list (.int .i64), .sl 3, 24⟩), (23, ⟨.fnil, .other, 8⟩), (24, ⟨.fnil, .other, 8⟩), (25, ⟨.fnil, .other, 8⟩), (26, ⟨.fnil, .other, 8⟩), (27, ⟨.list (.str), .sl 9, 24⟩), (28, ⟨.fnil, .other, 8⟩), (29, ⟨.fnil, .other, 8⟩), (30, ⟨.list (.int .u8), .sl 5, 24⟩), (34, ⟨.fnil, .other, 8⟩), (38, ⟨.fnil, .other, 8⟩), (39, ⟨.fnil, .other, 8⟩), (40, ⟨.fnil, .other, 8⟩), (44, ⟨.fnil, .other, 8⟩), (45, ⟨.fnil, .other, 8⟩), (47, ⟨.fnil, .other, 8⟩), (49, ⟨.fnil, .other, 8⟩), (50, ⟨.fnil, .other, 8⟩), (51, ⟨.fnil, .other, 8⟩), (52, ⟨.fnil, .other, 8⟩), (56, ⟨.fnil, .other, 8⟩), (57, ⟨.int .u64, .int .u64, 8⟩), (58, ⟨.fnil, .other, 8⟩), (59, ⟨.fnil, .other, 8⟩), (67, ⟨.fnil, .other, 8⟩), (70, ⟨.fnil, .other, 8⟩)]
theorem hmix : Tryd.prog.follows .mixedOrders = true := by kernel_rfl
theorem hTab : TabOk Tryd.prog tab := fun t e h => by
  refine tabAll_ok (l := tab) ?_ t e h
  refine ⟨⟨by kernel_rfl, trivial⟩, ⟨by kernel_rfl, rfl⟩, ⟨by kernel_rfl, trivial⟩, ⟨by kernel_rfl, rfl⟩, ⟨by kernel_rfl, trivial⟩, ⟨by kernel_rfl, _, rfl, rfl, by decide, by decide, by decide⟩, ⟨by kernel_rfl, trivial⟩, ⟨by kernel_rfl, trivial⟩, ⟨by kernel_rfl, trivial⟩, ⟨by kernel_rfl, trivial⟩, ⟨by kernel_rfl, _, rfl, rfl, by decide, by decide, by decide⟩, ⟨by kernel_rfl, trivial⟩, ⟨by kernel_rfl, trivial⟩, ⟨by kernel_rfl, _, rfl, rfl, by decide, by decide, by decide⟩, ⟨by kernel_rfl, trivial⟩, ⟨by kernel_rfl, trivial⟩, ⟨by kernel_rfl, trivial⟩, ⟨by kernel_rfl, trivial⟩, ⟨by kernel_rfl, trivial⟩, ⟨by kernel_rfl, trivial⟩, ⟨by kernel_rfl, trivial⟩, ⟨by kernel_rfl, trivial⟩, ⟨by kernel_rfl, trivial⟩, ⟨by kernel_rfl, trivial⟩, ⟨by kernel_rfl, trivial⟩, ⟨by kernel_rfl, trivial⟩, ⟨by kernel_rfl, rfl⟩, ⟨by kernel_rfl, trivial⟩, ⟨by kernel_rfl, trivial⟩, ⟨by kernel_rfl, trivial⟩, ⟨by kernel_rfl, trivial⟩, trivial⟩
theorem toIntS (l : List Int) (hl : (l.length : Int) ≤ 1048576) : ConT Tryd.prog 5 [.il l] (.own 0 0 l.length) [.arr (.int .i64) l true] := by
  refine conT_of hmix hTab Tryd.func5 rfl rfl (by kernel_rfl) (by show 1 ≤ Tryd.f5.ntmps; decide) ?_
  refine stp ?_; try with_reducible exact True.intro
  refine ⟨Nat, fun i => i ≤ l.length, fun i => l.length - i, fun i => [(0, .il l), (3, .own 0 0 l.length), (4, .i i)], fun i => [.arr (.int .i64) (l.take i ++ List.replicate (l.length - i) 0) true], ⟨0, ⟨.frz [], [0], ⟨rfl, rfl, rfl, trivial⟩, ⟨rfl, trivial⟩, by decide, rfl, rfl, rfl⟩, Nat.zero_le _⟩, fun i hi => ?_⟩
  refine stp ?_; try with_reducible exact True.intro
  refine Br.mk (fun h => ?_) (fun h => ?_) <;> simp at h
  · refine stp ?_; try with_reducible exact True.intro
    refine ⟨i + 1, ⟨.frz [], [0], ⟨rfl, rfl, rfl, trivial⟩, ⟨?_, trivial⟩, by decide, rfl, rfl, rfl⟩, h, by dsimp only; omega⟩
    refine congrArg (fun x => some (Obj.arr (.int .i64) x true)) ?_
    have := fill_step id l (0 : Int) rfl (rd_get (l := l) (i := (i : Int)) (by simpa using h))
    simpa using this
  · refine stp ?_; try with_reducible exact True.intro
    obtain rfl : i = l.length := Nat.le_antisymm hi h
    exact ⟨.frz [], [0], ⟨rfl, trivial⟩, ⟨by simp [Obj.ren, frzI], trivial⟩, by decide, rfl, rfl, rfl⟩
end Go.Proofs.YtaoepnmhflmhhaaDoorTv
end
section
open Go Go.Proofs.YtaoepnmhflmhhaaDoorVe Go.Proofs.YtaoepnmhflmhhaaDoorTv Go.Proofs
namespace Go.Proofs.YtaoepnmhflmhhaaDoorTv
set_option maxRecDepth 8000
set_option maxHeartbeats 2000000
/-- A law's own checks: rows that are equal. -/
theorem ConS.toT {P : Program} {f : Nat} {args : List V} {rs : V} (h : ConS P f args rs) : ConT P f args rs [] := by
  obtain ⟨h1, h2, h3⟩ := h
  refine ⟨h2, fun m s avs hno hs hS hv => (h3 m s avs hno hs hS hv).mono fun av H' ⟨e1, e2⟩ => ⟨m, e2.symm, hS, Kp.refl m [], Fr.refl m s, ?_⟩⟩
  rw [e1]; exact scal_vt m [] rs h1
theorem eqIntS (l m : List Int) (hl : (l.length : Int) ≤ 274877906944) : ConS Tryd.prog 7 [.il l, .il m] (.b (decide (l = m))) := by
  refine conS_of hmix hTab Tryd.func7 rfl rfl (by kernel_rfl) (by show 2 ≤ Tryd.f7.ntmps; decide) rfl ?_
  refine stp ?_; try with_reducible exact True.intro
  refine Br.mk (fun h => ?_) (fun h => ?_) <;> simp at h
  · refine stp ?_; try with_reducible exact True.intro
    have : l ≠ m := fun e => h (by rw [e])
    simp [this]
  · refine stp ?_; try with_reducible exact True.intro
    refine ⟨Nat, fun i => i ≤ l.length ∧ ∀ k, k < i → rd l k = rd m k, fun i => l.length - i, fun i => [(0, .il l), (1, .il m), (5, .i i)], fun i => [], ⟨0, ⟨.frz [], [], ⟨rfl, rfl, rfl, trivial⟩, trivial, by decide, rfl, rfl, rfl⟩, by simp⟩, fun i ⟨hi, hk⟩ => ?_⟩
    refine stp ?_; try with_reducible exact True.intro
    refine Br.mk (fun h1 => ?_) (fun h1 => ?_) <;> simp at h1
    · refine stp ?_; try with_reducible exact True.intro
      refine Br.mk (fun h2 => ?_) (fun h2 => ?_) <;> simp at h2
      · refine stp ?_; try with_reducible exact True.intro
        have : l ≠ m := fun e => h2 (by rw [e])
        simp [this]
      · refine stp ?_; try with_reducible exact True.intro
        refine ⟨i + 1, ⟨.frz [], [], ⟨rfl, rfl, rfl, trivial⟩, trivial, by decide, rfl, rfl, rfl⟩, ⟨h1, fun k hk1 => ?_⟩, by dsimp only; omega⟩
        by_cases e : k = i
        · rw [e]; exact h2
        · exact hk k (by omega)
    · refine stp ?_; try with_reducible exact True.intro
      have : l = m := by
        refine List.ext_getElem (by omega) fun k h2 h3 => ?_
        have := hk k (by omega)
        simpa [rd, h2, h3] using this
      simp [this]
end Go.Proofs.YtaoepnmhflmhhaaDoorTv
end
section
open Go Go.Proofs.YtaoepnmhflmhhaaDoorVe Go.Proofs.YtaoepnmhflmhhaaDoorTv Go.Proofs
namespace Go.Proofs.YtaoepnmhflmhhaaDoorTv
set_option maxRecDepth 8000
set_option maxHeartbeats 2000000
/-- n, n + 1, .. -/
def marks (n : Int) (k : Nat) : List Int := (List.range k).map fun i => n + (i : Nat)
@[simp] theorem marks_length (n : Int) (k : Nat) : (marks n k).length = k := by simp [marks]
theorem marks_get (n : Int) {k i : Nat} (h : i < k) : (marks n k)[i]? = some (n + i) := by simp [marks, h]
end Go.Proofs.YtaoepnmhflmhhaaDoorTv
end
section
namespace Go.Proofs
open Go.Shelf
def Tryd.lays156_ren : Go.Shelf.Ren := ⟨fun | 156 => 13 | 165 => 15 | 166 => 16 | 169 => 17 | 240 => 19 | 241 => 20 | 276 => 25 | 277 => 26 | n => n, fun | 31 => 27 | 9 => 9 | 3 => 3 | 4 => 4 | 0 => 0 | 20 => 20 | 72 => 33 | 76 => 37 | 70 => 31 | 37 => 30 | 75 => 36 | 127 => 41 | 164 => 48 | 5 => 5 | 80 => 39 | n => n, fun | n => n⟩
theorem Tryd.lays156 : Go.Proofs.Lays.n156 Tryd.prog Tryd.lays156_ren := {
  mixed := by kernel_rfl
  f156 := Tryd.func13.trans (congrArg some (by kernel_rfl))
  f165 := Tryd.func15.trans (congrArg some (by kernel_rfl))
  f166 := Tryd.func16.trans (congrArg some (by kernel_rfl))
  f169 := Tryd.func17.trans (congrArg some (by kernel_rfl))
  f240 := Tryd.func19.trans (congrArg some (by kernel_rfl))
  f241 := Tryd.func20.trans (congrArg some (by kernel_rfl))
  f276 := Tryd.func25.trans (congrArg some (by kernel_rfl))
  f277 := Tryd.func26.trans (congrArg some (by kernel_rfl))
  t0 := Tryd.underlying0
  a0 := Tryd.isAgg0
  z0 := Tryd.sizeOf0
  v0 := Tryd.zeroValue0
  t3 := Tryd.underlying3
  a3 := Tryd.isAgg3
  z3 := Tryd.sizeOf3
  v3 := Tryd.zeroValue3
  t4 := Tryd.underlying4
  a4 := Tryd.isAgg4
  z4 := Tryd.sizeOf4
  v4 := Tryd.zeroValue4
  t9 := Tryd.underlying9
  a9 := Tryd.isAgg9
  z9 := Tryd.sizeOf9
  v9 := Tryd.zeroValue9
  t20 := Tryd.underlying20
  a20 := Tryd.isAgg20
  z20 := Tryd.sizeOf20
  v20 := Tryd.zeroValue20
  t31 := Tryd.underlying27
  a31 := Tryd.isAgg27
  z31 := Tryd.sizeOf27
  v31 := Tryd.zeroValue27
  t37 := Tryd.underlying30
  a37 := Tryd.isAgg30
  z37 := Tryd.sizeOf30
  v37 := Tryd.zeroValue30
  t70 := Tryd.underlying31
  a70 := Tryd.isAgg31
  z70 := Tryd.sizeOf31
  v70 := Tryd.zeroValue31
  t72 := Tryd.underlying33
  a72 := Tryd.isAgg33
  z72 := Tryd.sizeOf33
  v72 := Tryd.zeroValue33
  t75 := Tryd.underlying36
  a75 := Tryd.isAgg36
  z75 := Tryd.sizeOf36
  v75 := Tryd.zeroValue36
  t76 := Tryd.underlying37
  a76 := Tryd.isAgg37
  z76 := Tryd.sizeOf37
  v76 := Tryd.zeroValue37
  t127 := Tryd.underlying41
  a127 := Tryd.isAgg41
  z127 := Tryd.sizeOf41
  v127 := Tryd.zeroValue41
  t164 := Tryd.underlying48
  a164 := Tryd.isAgg48
  z164 := Tryd.sizeOf48
  v164 := Tryd.zeroValue48 }
theorem Tryd.Builder_Extra_156 : Builder.Extra Tryd.prog Tryd.lays156_ren := {
  sizeBuilder := by kernel_rfl
  liesBuilder := by kernel_rfl
  t5 := Tryd.underlying5
  a5 := Tryd.isAgg5
  z5 := Tryd.sizeOf5
  v5 := Tryd.zeroValue5
  infoByte := by kernel_rfl
  cellsByte := by kernel_rfl
  sizeByte := by kernel_rfl
  neB5 := by decide }
open Go.RowKit in
/-- No element: the empty string; the world is as it was. (Whatever the slice's address and capacity: a nil slice too.) (LAID: no walk: one application.) -/
theorem Tryd.strings_Join_none (a : Option Addr) (c : Nat) (sep : ByteArray) (w : World) :
    Calls Tryd.prog 13 #[.slice a 0 c, .string sep] w fun e w' => e = .returned (.string ⟨#[]⟩) ∧ w' = w := Any.strings_Join_none Tryd.lays156 Tryd.Builder_Extra_156 a c sep w
open Go.RowKit in
/-- strings.Join: "Join concatenates the elements of its first argument to create a single string. The separator string sep is placed between elements in the resulting string.": HOWEVER MANY ELEMENTS. Below the heap's end the world is as it was. (LAID: no walk: one application.) -/
theorem Tryd.strings_Join (bk o c : Nat) (xs : List ByteArray) (sep : ByteArray) (w : World) (hcells : ∀ (j : Nat) x, xs[j]? = some x → w.cell? ⟨bk, o + j, none⟩ = some (.string x)) (hbk : bk < w.heap.size) (hN : xs.length ≤ 140737488355328) (hcap : xs.length ≤ c) (hlen : (Lib.join (xs.map (·.data.toList)) sep.data.toList).length ≤ 140737488355328) :
    Calls Tryd.prog 13 #[.slice (some ⟨bk, o, none⟩) xs.length c, .string sep] w fun e w' => e = .returned (.string ⟨(Lib.join (xs.map (·.data.toList)) sep.data.toList).toArray⟩) ∧ Below w.heap.size w w' := Any.strings_Join Tryd.lays156 Tryd.Builder_Extra_156 bk o c xs sep w hcells hbk hN hcap hlen
def Tryd.laysM171_ren : Go.Shelf.Ren := ⟨fun | 171 => 12 | 243 => 14 | 246 => 18 | 283 => 21 | 284 => 22 | 285 => 23 | 286 => 24 | 129 => 28 | 317 => 27 | 318 => 29 | 319 => 30 | 320 => 31 | 337 => 32 | 338 => 33 | n => n, fun | 3 => 3 | 9 => 9 | 2 => 2 | 4 => 4 | 171 => 42 | 0 => 0 | 53 => 43 | 37 => 30 | 5 => 5 | 173 => 46 | 212 => 53 | 51 => 54 | 20 => 20 | 213 => 55 | 46 => 57 | 232 => 60 | 233 => 61 | n => n, fun | 17 => 0 | 18 => 2 | 19 => 3 | n => n⟩
theorem Tryd.laysM171 : Go.Proofs.LaysM.n171 Tryd.prog Tryd.laysM171_ren := {
  mixed := by kernel_rfl
  f129 := Tryd.func28.trans (congrArg some (by kernel_rfl))
  f171 := Tryd.func12.trans (congrArg some (by kernel_rfl))
  f243 := Tryd.func14.trans (congrArg some (by kernel_rfl))
  f246 := Tryd.func18.trans (congrArg some (by kernel_rfl))
  f283 := Tryd.func21.trans (congrArg some (by kernel_rfl))
  f284 := Tryd.func22.trans (congrArg some (by kernel_rfl))
  f285 := Tryd.func23.trans (congrArg some (by kernel_rfl))
  f286 := Tryd.func24.trans (congrArg some (by kernel_rfl))
  f317 := Tryd.func27.trans (congrArg some (by kernel_rfl))
  f318 := Tryd.func29.trans (congrArg some (by kernel_rfl))
  f319 := Tryd.func30.trans (congrArg some (by kernel_rfl))
  f320 := Tryd.func31.trans (congrArg some (by kernel_rfl))
  f337 := Tryd.func32.trans (congrArg some (by kernel_rfl))
  f338 := Tryd.func33.trans (congrArg some (by kernel_rfl))
  t0 := Tryd.underlying0
  a0 := Tryd.isAgg0
  z0 := Tryd.sizeOf0
  v0 := Tryd.zeroValue0
  t2 := Tryd.underlying2
  a2 := Tryd.isAgg2
  z2 := Tryd.sizeOf2
  v2 := Tryd.zeroValue2
  t3 := Tryd.underlying3
  a3 := Tryd.isAgg3
  z3 := Tryd.sizeOf3
  v3 := Tryd.zeroValue3
  t4 := Tryd.underlying4
  a4 := Tryd.isAgg4
  z4 := Tryd.sizeOf4
  v4 := Tryd.zeroValue4
  t5 := Tryd.underlying5
  a5 := Tryd.isAgg5
  z5 := Tryd.sizeOf5
  v5 := Tryd.zeroValue5
  t9 := Tryd.underlying9
  a9 := Tryd.isAgg9
  z9 := Tryd.sizeOf9
  v9 := Tryd.zeroValue9
  t20 := Tryd.underlying20
  a20 := Tryd.isAgg20
  z20 := Tryd.sizeOf20
  v20 := Tryd.zeroValue20
  t37 := Tryd.underlying30
  a37 := Tryd.isAgg30
  z37 := Tryd.sizeOf30
  v37 := Tryd.zeroValue30
  t46 := Tryd.underlying57
  a46 := Tryd.isAgg57
  z46 := Tryd.sizeOf57
  v46 := Tryd.zeroValue57
  t51 := Tryd.underlying54
  a51 := Tryd.isAgg54
  z51 := Tryd.sizeOf54
  v51 := Tryd.zeroValue54
  t53 := Tryd.underlying43
  a53 := Tryd.isAgg43
  z53 := Tryd.sizeOf43
  v53 := Tryd.zeroValue43
  t171 := Tryd.underlying42
  a171 := Tryd.isAgg42
  z171 := Tryd.sizeOf42
  v171 := Tryd.zeroValue42
  t173 := Tryd.underlying46
  a173 := Tryd.isAgg46
  z173 := Tryd.sizeOf46
  v173 := Tryd.zeroValue46
  t212 := Tryd.underlying53
  a212 := Tryd.isAgg53
  z212 := Tryd.sizeOf53
  v212 := Tryd.zeroValue53
  t213 := Tryd.underlying55
  a213 := Tryd.isAgg55
  z213 := Tryd.sizeOf55
  t232 := Tryd.underlying60
  a232 := Tryd.isAgg60
  z232 := Tryd.sizeOf60
  v232 := Tryd.zeroValue60
  t233 := Tryd.underlying61
  a233 := Tryd.isAgg61
  z233 := Tryd.sizeOf61
  v233 := Tryd.zeroValue61
  g17 := by kernel_rfl
  g18 := by kernel_rfl
  g19 := by kernel_rfl
  i0 := by kernel_rfl
  i2 := by kernel_rfl
  i3 := by kernel_rfl
  i4 := by kernel_rfl
  i5 := by kernel_rfl
  i9 := by kernel_rfl
  i20 := by kernel_rfl
  i37 := by kernel_rfl
  i46 := by kernel_rfl
  i51 := by kernel_rfl
  i53 := by kernel_rfl
  i171 := by kernel_rfl
  i173 := by kernel_rfl
  i212 := by kernel_rfl
  i232 := by kernel_rfl
  i233 := by kernel_rfl
  m17 := by kernel_rfl
  m18 := by kernel_rfl
  m19 := by kernel_rfl }
open Go.RowKit Go.Sort Go.Lib in
/-- strconv.Itoa: "Itoa is equivalent to FormatInt(int64(i), 10).": i's DECIMAL NUMERAL ('Lib.itoa': a '-' where i is negative, then the digits), FOR EVERY int. The world behind the call: the world before it, new blocks behind the heap (the library's 'var a [24]byte'), draws. (LAID: no walk: one application.) -/
theorem Tryd.strconv_Itoa (n : Int) (h0 : -9223372036854775808 ≤ n) (h1 : n ≤ 9223372036854775807) (w : World) (htab : Lib.TabIs Tryd.prog w "internal/strconv.uint64pow10" .u64 Lib.pow10Tab) :
    Calls Tryd.prog 12 #[.int .i64 n] w fun e w' => e = .returned (.string ⟨(Lib.itoa n).toArray⟩) ∧ ∃ k os, w' = grow (w.drewN k) os := Any.strconv_Itoa Tryd.laysM171 n h0 h1 w htab
end Go.Proofs

open Go Go.Proofs.YtaoepnmhflmhhaaDoorVe Go.Proofs.YtaoepnmhflmhhaaDoorTv Go.Proofs
namespace Go.Proofs.YtaoepnmhflmhhaaDoorTv
set_option maxRecDepth 8000
set_option maxHeartbeats 2000000
theorem tab_g : Tryd.prog.globalNamed "internal/strconv.uint64pow10" = some 0 := by kernel_rfl
theorem tab_is {w : World} (h : sideT w) : Lib.TabIs Tryd.prog w "internal/strconv.uint64pow10" .u64 Lib.pow10Tab := by
  unfold Lib.TabIs World.var?
  rw [tab_g]
  simp only [Option.bind_some]
  unfold sideT at h
  cases hh : w.heap[(0 : Nat)]? with
  | none => rw [hh] at h; exact h
  | some o => rw [hh] at h; cases o <;> exact h
def ito (n : Int) : ByteArray := ⟨(Lib.itoa n).toArray⟩
def joi (l : List ByteArray) (sep : ByteArray) : ByteArray := ⟨(Lib.join (l.map fun x => x.data.toList) sep.data.toList).toArray⟩
theorem Itoa (n : Int) (h0 : -9223372036854775808 ≤ n) (h1 : n ≤ 9223372036854775807) : ConS Tryd.prog 12 [.i n] (.s (ito n)) := by
  refine ⟨rfl, enters_of Tryd.func12 rfl rfl, fun m s avs _ _ _ hv => ?_⟩
  cases hv with
  | cons _ a _ ar ha hr =>
    cases hr
    obtain rfl := ha.int_inv
    refine callV_of_lib (enters_of Tryd.func12 rfl rfl) fun x vals hR hH hv => ?_
    cases hv with
    | cons _ _ v vs k1 k2 =>
      cases k2
      cases k1
      refine ⟨_, fun y => .str (ito n), ?_⟩
      refine (Tryd.strconv_Itoa n h0 h1 x.w (tab_is hR.side)).mono fun e w' ⟨he, k, os, hw⟩ => ⟨he, ?_⟩
      subst hw
      exact ⟨rfl, rfl, rfl, by simp [Sort.grow], fun i hi => by simp [Sort.grow, Array.getElem?_append, hi]⟩
theorem strs_sh {G : Nat → Nat → Prop} {H : Heap} : ∀ {l : List ByteArray} {ch : List (List AV)}, All2 (fun x c => Sh G H .str x c) l ch → ch.flatten = l.map AV.str
  | [], [], _ => rfl
  | x :: l, c :: ch, h => by
    have h1 : c = [.str x] := h.1
    subst h1
    simp [strs_sh h.2]
  | [], _ :: _, h => h.elim
  | _ :: _, [], h => h.elim
theorem vrl_strs {x : Cx} : ∀ {l : List ByteArray} {vs : List Value}, VRL x (l.map AV.str) vs → vs = l.map Value.string
  | [], _, h => by cases h; rfl
  | y :: l, _, h => by
    cases h with
    | cons _ _ v vs h1 h2 => cases h1; rw [vrl_strs h2]; rfl
theorem JoinL (l : List ByteArray) (sep : ByteArray) (hl : (joi l sep).size ≤ 140737488355328) : ConS Tryd.prog 13 [.val (.list .str) l, .s sep] (.s (joi l sep)) := by
  refine ⟨rfl, enters_of Tryd.func13 rfl rfl, fun m s avs _ _ _ hv => ?_⟩
  cases hv with
  | cons _ a _ ar ha hr =>
    cases hr with
    | cons _ b _ bs hb hr =>
      cases hr
      obtain rfl := hb.str_inv
      cases ha with
      | val _ _ _ hsh =>
        obtain ⟨a', ch, ea, hsl, hlen, hrow, hG, hmost, hall⟩ := hsh
        injection ea with ea _
        subst ea
        refine callV_of_lib (enters_of Tryd.func13 rfl rfl) fun x vals hR hH hv => ?_
        cases hv with
        | cons _ _ v vs k1 k2 =>
          cases k2 with
          | cons _ _ v2 vs2 k3 k4 =>
            cases k4
            cases k3
            have hc := strs_sh hall
            rw [hc] at hrow
            obtain ⟨A, cap, rfl, hcap, hcells⟩ := row_cells hR (xs := l.map AV.str) (by rw [hH]; exact hrow) hlen (by simp) (fun b hb => by rw [hb] at hsl; simp [isSl] at hsl) k1
            refine ⟨_, fun y => .str (joi l sep), ?_⟩
            by_cases hz : l = []
            · subst hz
              refine (Tryd.strings_Join_none A cap sep x.w).mono fun e w' ⟨he, hw⟩ => ⟨he, ?_⟩
              subst hw
              exact Go.RowKit.Below.refl _ _
            · obtain ⟨b, o, vs, rfl, hbs, hvl, hcell⟩ := hcells (fun h => hz (List.length_eq_zero_iff.1 h))
              obtain rfl := vrl_strs hvl
              refine (Tryd.strings_Join b o cap l sep x.w (fun j y hy => hcell j _ (by rw [List.getElem?_map, hy]; rfl)) hbs (by simp only [huge] at hmost; omega) hcap (by simpa [joi, ByteArray.size] using hl)).mono fun e w' ⟨he, hw⟩ => ⟨he, hw⟩
end Go.Proofs.YtaoepnmhflmhhaaDoorTv
end
section
open Go Go.Proofs.YtaoepnmhflmhhaaDoorVe Go.Proofs.YtaoepnmhflmhhaaDoorTv Go.Proofs
namespace Go.Proofs.YtaoepnmhflmhhaaDoorTv
set_option maxRecDepth 8000
set_option maxHeartbeats 2000000
theorem FormatIntI (n : Int) (h0 : -9223372036854775808 ≤ n) (h1 : n ≤ 9223372036854775807) : ConS Tryd.prog 10 [.i n] (.s (ito n)) := by
  refine conS_of hmix hTab Tryd.func10 rfl rfl (by kernel_rfl) (by show 1 ≤ Tryd.f10.ntmps; decide) rfl ?_
  refine stp ?_; try with_reducible exact True.intro
  refine useT ((Itoa n h0 h1).toT) ?_; try with_reducible exact True.intro
theorem JoinI (l : List ByteArray) (sep : ByteArray) (hl : (joi l sep).size ≤ 140737488355328) : ConS Tryd.prog 11 [.val (.list .str) l, .s sep] (.s (joi l sep)) := by
  refine conS_of hmix hTab Tryd.func11 rfl rfl (by kernel_rfl) (by show 2 ≤ Tryd.f11.ntmps; decide) rfl ?_
  refine stp ?_; try with_reducible exact True.intro
  refine useT ((JoinL l sep hl).toT) ?_; try with_reducible exact True.intro
def dd (u : Nat) : List UInt8 := if u = 0 then [] else Lib.decDigits u
theorem dd_step {u : Nat} (h : u ≠ 0) : dd u = dd (u / 10) ++ [UInt8.ofNat (48 + u % 10)] := by
  unfold dd
  rw [if_neg h, Lib.decDigits]
  by_cases hu : u < 10
  · rw [dif_pos hu, if_pos (by omega), Nat.mod_eq_of_lt hu]; rfl
  · rw [dif_neg hu, if_neg (by omega)]
theorem ito_size (n : Int) (h0 : -9223372036854775808 ≤ n) (h1 : n ≤ 9223372036854775807) : (ito n).size ≤ 21 := by
  have := Lib.itoa_length_le n h0 h1
  simpa [ito, ByteArray.size] using this
theorem ito_zero : ito 0 = ⟨#[48]⟩ := by
  have : Lib.itoa 0 = [48] := by
    unfold Lib.itoa
    rw [if_neg (by omega)]
    show Lib.decDigits 0 = _
    rw [Lib.decDigits, dif_pos (by omega)]; rfl
  unfold ito
  rw [this]
theorem ito_dd {n : Int} (hz : n ≠ 0) : (if n < 0 then [45] else []) ++ dd n.natAbs = Lib.itoa n := by
  simp only [Lib.itoa, dd, if_neg (show ¬ n.natAbs = 0 by omega)]
  split
  · rfl
  · rw [show n.toNat = n.natAbs by omega]; rfl
theorem u8w {e : Int} (h0 : 0 ≤ e) (h1 : e ≤ 9) : IntKind.u8.wrap (48 + e) = 48 + e := by
  simp [IntKind.wrap, IntKind.signed, IntKind.bits]; omega
theorem ba_data (a b : ByteArray) : (a ++ b).data.toList = a.data.toList ++ b.data.toList := by
  rw [ByteArray.data_append]; simp
theorem ba_ext {a : ByteArray} {l : List UInt8} (h : a.data.toList = l) : a = ⟨l.toArray⟩ := by
  subst h; cases a; rfl
theorem dd_put {u : Nat} (hu : u ≠ 0) (o : ByteArray) {w : Int} (hw : w = 48 + ((u % 10 : Nat) : Int)) : dd (u / 10) ++ (strOfNums [w] ++ o).data.toList = dd u ++ o.data.toList := by
  rw [ba_data, dd_step hu]
  subst hw
  have e : ((48 : Int) + ((u % 10 : Nat) : Int)).toNat = 48 + u % 10 := by omega
  show _ ++ ([UInt8.ofNat ((48 : Int) + ((u % 10 : Nat) : Int)).toNat] ++ _) = _
  rw [e, List.append_assoc]
theorem FormatIntS (n : Int) (h0 : -9223372036854775808 ≤ n) (h1 : n ≤ 9223372036854775807) : ConS Tryd.prog 8 [.i n] (.s (ito n)) := by
  have hsz := ito_size n h0 h1
  refine conS_of hmix hTab Tryd.func8 rfl rfl (by kernel_rfl) (by show 1 ≤ Tryd.f8.ntmps; decide) rfl ?_
  refine stp ?_; try with_reducible exact True.intro
  refine Br.mk (fun hz => ?_) (fun hz => ?_) <;> simp [-Int.ofNat_toNat] at hz
  · subst hz
    refine stp ?_; try with_reducible exact True.intro
    rw [ito_zero]
  have hd := ito_dd hz
  refine stp ?_; try with_reducible exact True.intro
  refine ⟨Int × ByteArray, fun p => dd p.1.natAbs ++ p.2.data.toList = dd n.natAbs ∧ -9223372036854775808 ≤ p.1 ∧ p.1 ≤ 9223372036854775807, fun p => p.1.natAbs, fun p => [(0, .i p.1), (3, .b (decide (n < 0))), (4, .s p.2)], fun p => [], ⟨(n, ByteArray.empty), (fitK [] []), by show dd n.natAbs ++ [] = _; simp, h0, h1⟩, fun ⟨q, o⟩ ⟨hi, hq0, hq1⟩ => ?_⟩
  dsimp only at hi hq0 hq1 ⊢
  have hol : o.size ≤ 21 := by
    have h2 := congrArg List.length (show (if n < 0 then [45] else []) ++ (dd q.natAbs ++ o.data.toList) = Lib.itoa n by rw [hi]; exact hd)
    simp only [List.length_append, Array.length_toList] at h2
    have h3 := Lib.itoa_length_le n h0 h1
    show o.data.size ≤ 21
    omega
  have dn : (q.tmod 10).natAbs = q.natAbs % 10 := Int.natAbs_tmod q 10
  have dq : (q.tdiv 10).natAbs = q.natAbs / 10 := Int.natAbs_tdiv q 10
  obtain ⟨d, hdd⟩ : ∃ d, q.tmod 10 = d := ⟨_, rfl⟩
  obtain ⟨q2, hqq⟩ : ∃ q2, q.tdiv 10 = q2 := ⟨_, rfl⟩
  have hm0 : -9 ≤ q.tmod 10 := by rw [hdd] at dn ⊢; omega
  have hm1 : q.tmod 10 ≤ 9 := by rw [hdd] at dn ⊢; omega
  refine stp ?_; try with_reducible exact True.intro
  refine Br.mk (fun h2 => ?_) (fun h2 => ?_) <;> simp [-Int.ofNat_toNat] at h2
  · refine stp ?_; try with_reducible exact True.intro
    refine Br.mk (fun h3 => ?_) (fun h3 => ?_) <;> simp [-Int.ofNat_toNat] at h3
    · refine stp ?_; try with_reducible exact True.intro
      have hw : IntKind.u8.wrap (48 + (0 - q.tmod 10)) = 48 + (0 - q.tmod 10) := u8w (by omega) (by omega)
      refine ⟨(show (1 : Nat) + o.size ≤ 140737488355328 by omega), ?_⟩
      refine stp ?_; try with_reducible exact True.intro
      refine ⟨(q.tdiv 10, strOfNums [IntKind.u8.wrap (48 + (0 - q.tmod 10))] ++ o), (fitK [] []), ⟨?_, ?_, ?_⟩, ?_⟩
      · rw [hw]; dsimp only; rw [dq, dd_put (by omega) o (by omega)]; exact hi
      · dsimp only; rw [hqq] at dq ⊢; omega
      · dsimp only; rw [hqq] at dq ⊢; omega
      · dsimp only; rw [dq]; omega
    · refine stp ?_; try with_reducible exact True.intro
      have hw : IntKind.u8.wrap (48 + q.tmod 10) = 48 + q.tmod 10 := u8w (by omega) (by omega)
      refine ⟨(show (1 : Nat) + o.size ≤ 140737488355328 by omega), ?_⟩
      refine stp ?_; try with_reducible exact True.intro
      refine ⟨(q.tdiv 10, strOfNums [IntKind.u8.wrap (48 + q.tmod 10)] ++ o), (fitK [] []), ⟨?_, ?_, ?_⟩, ?_⟩
      · rw [hw]; dsimp only; rw [dq, dd_put (by omega) o (by omega)]; exact hi
      · dsimp only; rw [hqq] at dq ⊢; omega
      · dsimp only; rw [hqq] at dq ⊢; omega
      · dsimp only; rw [dq]; omega
  · have hq : q = 0 := by omega
    subst hq
    have ho : (if n < 0 then [45] else []) ++ o.data.toList = Lib.itoa n := by
      rw [← hd, ← hi]; rfl
    refine stp ?_; try with_reducible exact True.intro
    refine Br.mk (fun h3 => ?_) (fun h3 => ?_) <;> simp [-Int.ofNat_toNat] at h3
    · rw [if_pos h3] at ho
      refine stp ?_; try with_reducible exact True.intro
      refine ⟨(show (1 : Nat) + o.size ≤ 140737488355328 by omega), ?_⟩
      refine stp ?_; try with_reducible exact True.intro
      refine congrArg (fun x => V.s x) (ba_ext ?_)
      rw [ba_data]; exact ho
    · rw [if_neg (by omega)] at ho
      refine stp ?_; try with_reducible exact True.intro
      exact congrArg (fun x => V.s x) (ba_ext ho)
def jb (l : List ByteArray) (sep : ByteArray) : Nat → List Int
  | 0 => []
  | i + 1 => jb l sep i ++ (if 0 < i then bys sep else []) ++ bys (l.getD i ByteArray.empty)
theorem jb_len (l : List ByteArray) (sep : ByteArray) : ∀ i j, (jb l sep i).length ≤ (jb l sep (i + j)).length
  | i, 0 => Nat.le_refl _
  | i, j + 1 => by
    have := jb_len l sep i j
    rw [← Nat.add_assoc, jb]
    simp only [List.length_append]
    omega
theorem num_bys (s : ByteArray) : (bys s).map (fun n => UInt8.ofNat n.toNat) = s.data.toList := by
  simp only [bys, List.map_map]
  conv => rhs; rw [← List.map_id s.data.toList]
  apply List.map_congr_left
  intro a _
  simp
theorem jb_join (l : List ByteArray) (sep : ByteArray) : ∀ i, i ≤ l.length → (jb l sep i).map (fun n => UInt8.ofNat n.toNat) = Lib.join ((l.take i).map fun x => x.data.toList) sep.data.toList
  | 0, _ => rfl
  | i + 1, h => by
    have hi := jb_join l sep i (by omega)
    have hl : l[i]? = some (l.getD i ByteArray.empty) := by simp [List.getD, List.getElem?_eq_getElem (show i < l.length by omega)]
    rw [jb, List.map_append, List.map_append, hi, num_bys, List.take_add_one, hl]
    generalize l.getD i ByteArray.empty = y at *
    simp only [Option.toList, List.map_append, List.map_cons, List.map_nil]
    cases i with
    | zero => simp [Lib.join, List.intercalate]
    | succ i =>
      rw [if_pos (by omega), num_bys]
      have hne : (l.take (i + 1)).map (fun x => x.data.toList) ≠ [] := by
        intro h2
        have := congrArg List.length h2
        simp only [List.length_map, List.length_take, List.length_nil] at this
        omega
      generalize (l.take (i + 1)).map (fun x => x.data.toList) = m at *
      cases m with
      | nil => exact absurd rfl hne
      | cons a m => rw [List.cons_append, Lib.join_cons, Lib.join_cons]; simp [Lib.joinTail]
theorem jb_joi (l : List ByteArray) (sep : ByteArray) : strOfNums (jb l sep l.length) = joi l sep := by
  unfold strOfNums joi
  rw [jb_join l sep _ (Nat.le_refl _), List.take_length]
theorem jb_size (l : List ByteArray) (sep : ByteArray) : (jb l sep l.length).length = (joi l sep).size := by
  rw [← jb_joi]; simp [strOfNums, ByteArray.size]
theorem bys_len (s : ByteArray) : (bys s).length = s.size := by simp only [bys, List.length_map, Array.length_toList]; rfl
theorem joi_le (l : List ByteArray) (sep : ByteArray) {b : Nat} (h : ∀ x ∈ l, x.size ≤ b) : (joi l sep).size ≤ l.length * (b + sep.size) := by
  rw [← jb_size]
  have key : ∀ i, i ≤ l.length → (jb l sep i).length ≤ i * (b + sep.size) := by
    intro i
    induction i with
    | zero => intro _; simp [jb]
    | succ i ih =>
      intro hi
      have h1 := ih (by omega)
      have h2 : (l.getD i ByteArray.empty).size ≤ b := by
        simp only [List.getD, List.getElem?_eq_getElem (show i < l.length by omega), Option.getD_some]
        exact h _ (List.getElem_mem _)
      have e1 : (bys (l.getD i ByteArray.empty)).length = (l.getD i ByteArray.empty).size := bys_len _
      have e2 : (bys sep).length = sep.size := bys_len _
      rw [jb, Nat.add_mul]
      simp only [List.length_append]
      split <;> simp only [e2, List.length_nil] <;> omega
  exact key _ (Nat.le_refl _)
theorem JoinS (l : List ByteArray) (sep : ByteArray) (hl : (joi l sep).size ≤ 268435456) (hn : (l.length : Int) ≤ 1048576) : ConS Tryd.prog 9 [.val (.list .str) l, .s sep] (.s (joi l sep)) := by
  have hj : ∀ i, i ≤ l.length → (jb l sep i).length ≤ 268435456 := fun i hi => by
    have := jb_len l sep i (l.length - i)
    rw [show i + (l.length - i) = l.length by omega, jb_size] at this
    omega
  refine conS_of hmix hTab Tryd.func9 rfl rfl (by kernel_rfl) (by show 2 ≤ Tryd.f9.ntmps; decide) rfl ?_
  refine stp ?_; try with_reducible exact True.intro
  refine ⟨Nat, fun i => i ≤ l.length, fun i => l.length - i, fun i => [(0, .val (.list .str) l), (1, .s sep), (5, .own 0 0 (jb l sep i).length), (6, .i i)], fun i => [.arr (.int .u8) (jb l sep i) true], ⟨0, (fitK [] [0]), Nat.zero_le _⟩, fun i hi => ?_⟩
  dsimp only at hi ⊢
  have hx : i < l.length → (jb l sep i).length + (if 0 < i then bys sep else []).length + (bys (rdT .str l (i : Int))).length ≤ 268435456 := fun h => by
    have := hj (i + 1) h
    rw [jb, List.length_append, List.length_append] at this
    exact this
  refine stp ?_; try with_reducible exact True.intro
  refine Br.mk (fun h1 => ?_) (fun h1 => ?_) <;> simp [-Int.ofNat_toNat] at h1
  · have hx := hx (by omega)
    refine stp ?_; try with_reducible exact True.intro
    refine Br.mk (fun h2 => ?_) (fun h2 => ?_) <;> simp [-Int.ofNat_toNat] at h2
    · rw [if_pos (by omega)] at hx
      refine stp ?_; try with_reducible exact True.intro
      have hu : jb l sep (i + 1) = jb l sep i ++ bys sep ++ bys (rdT .str l (i : Int)) := by
        rw [jb, if_pos (by omega)]; rfl
      refine ⟨i + 1, ⟨.frz [], [2], ⟨rfl, rfl, ?_, rfl, trivial⟩, ⟨?_, trivial⟩, by decide, rfl, rfl, rfl⟩, by first | ((try dsimp only); omega) | (simp; omega), by first | ((try dsimp only); omega) | (simp; omega)⟩ <;> rw [hu]
      · show V.own 2 0 _ = V.own 2 0 _
        congr 1
        simp; omega
      · refine congrArg (fun x => some (Obj.arr (.int .u8) x true)) ?_
        simp only [List.drop_zero, List.take_length]
        rw [List.take_of_length_le (by simp)]
    · rw [if_neg (by omega)] at hx
      have hu : jb l sep (i + 1) = jb l sep i ++ bys (rdT .str l (i : Int)) := by
        rw [jb, if_neg (by omega), List.append_nil]; rfl
      refine stp ?_; try with_reducible exact True.intro
      refine ⟨i + 1, ⟨.frz [], [1], ⟨rfl, rfl, ?_, rfl, trivial⟩, ⟨?_, trivial⟩, by decide, rfl, rfl, rfl⟩, by first | ((try dsimp only); omega) | (simp; omega), by first | ((try dsimp only); omega) | (simp; omega)⟩ <;> rw [hu]
      · show V.own 1 0 _ = V.own 1 0 _
        congr 1
        simp
      · refine congrArg (fun x => some (Obj.arr (.int .u8) x true)) ?_
        simp
  · obtain rfl : i = l.length := by omega
    refine stp ?_; try with_reducible exact True.intro
    rw [List.drop_zero, List.take_length, jb_joi]
def nt (l : List Int) : ByteArray := if l = [] then ⟨#[45]⟩ else joi (l.map ito) ⟨#[44]⟩
def In64 (l : List Int) : Prop := ∀ x ∈ l, -9223372036854775808 ≤ x ∧ x ≤ 9223372036854775807
theorem In64_of {l : List Int} (h : wfT (.list (.int .i64)) l) : In64 l := fun x hx => by
  have h1 : (Lit.int .i64 x).wf = true := h x hx
  simpa [Lit.wf, IntKind.min, IntKind.max, IntKind.signed, IntKind.bits] using h1
theorem In64_rd {l : List Int} (h : In64 l) (i : Int) : -9223372036854775808 ≤ rd l i ∧ rd l i ≤ 9223372036854775807 := by
  simp only [rd, List.getD]
  cases hx : l[i.toNat]? with
  | none => simp
  | some y => exact h y (List.mem_of_getElem? hx)
theorem nt_size {l : List Int} (h : In64 l) : (joi (l.map ito) ⟨#[44]⟩).size ≤ l.length * 22 := by
  have := joi_le (l.map ito) ⟨#[44]⟩ (b := 21) (fun x hx => by
    obtain ⟨y, hy, rfl⟩ := List.mem_map.1 hx
    exact ito_size y (h y hy).1 (h y hy).2)
  rw [List.length_map] at this
  exact this
theorem take_map_succ (l : List Int) {i : Nat} (h : i < l.length) : (l.map ito).take (i + 1) = (l.map ito).take i ++ [ito (rd l i)] := by
  rw [List.take_add_one, List.getElem?_map, List.getElem?_eq_getElem h]
  simp [rd, List.getD, List.getElem?_eq_getElem h]
theorem take_ito (l : List Int) : (l.map ito).take l.length = l.map ito := List.take_of_length_le (by simp)
theorem NumbersTextS (l : List Int) (hn : (l.length : Int) ≤ 1048576) (h : In64 l) : ConS Tryd.prog 4 [.il l] (.s (nt l)) := by
  have hsz := nt_size h
  refine conS_of hmix hTab Tryd.func4 rfl rfl (by kernel_rfl) (by show 1 ≤ Tryd.f4.ntmps; decide) rfl ?_
  refine stp ?_; try with_reducible exact True.intro
  refine Br.mk (fun hz => ?_) (fun hz => ?_) <;> simp [-Int.ofNat_toNat] at hz
  · refine stp ?_; try with_reducible exact True.intro
    rw [nt, if_pos hz]
  refine stp ?_; try with_reducible exact True.intro
  refine ⟨Nat, fun i => i ≤ l.length, fun i => l.length - i, fun i => [(0, .il l), (3, .own 0 0 i), (4, .i i)], fun i => [.arr .str ((l.map ito).take i) true], ⟨0, (fitK [] [0]), Nat.zero_le _⟩, fun i hi => ?_⟩
  dsimp only at hi ⊢
  have hr := In64_rd h i
  refine stp ?_; try with_reducible exact True.intro
  refine Br.mk (fun h1 => ?_) (fun h1 => ?_) <;> simp [-Int.ofNat_toNat] at h1
  · refine stp ?_; try with_reducible exact True.intro
    refine useT ((FormatIntS _ hr.1 hr.2).toT) ?_; try with_reducible exact True.intro
    refine ⟨i + 1, ⟨.frz [], [2], ⟨rfl, rfl, rfl, trivial⟩, ⟨?_, trivial⟩, by decide, rfl, rfl, rfl⟩, by first | ((try dsimp only); omega) | (simp; omega), by first | ((try dsimp only); omega) | (simp; omega)⟩
    rw [take_map_succ l (by omega)]
    refine congrArg (fun x => some (Obj.arr .str x true)) ?_
    simp [rd, List.take_take]
  · obtain rfl : i = l.length := by omega
    rw [take_ito]
    refine stp ?_; try with_reducible exact True.intro
    refine useT ((JoinS (l.map ito) ⟨#[44]⟩ (by omega) (by rw [List.length_map]; exact hn)).toT) ?_; try with_reducible exact True.intro
    rw [nt, if_neg hz]
theorem NumbersTextI (l : List Int) (hn : (l.length : Int) ≤ 1048576) (h : In64 l) : ConS Tryd.prog 6 [.il l] (.s (nt l)) := by
  have hsz := nt_size h
  refine conS_of hmix hTab Tryd.func6 rfl rfl (by kernel_rfl) (by show 1 ≤ Tryd.f6.ntmps; decide) rfl ?_
  refine stp ?_; try with_reducible exact True.intro
  refine Br.mk (fun hz => ?_) (fun hz => ?_) <;> simp [-Int.ofNat_toNat] at hz
  · refine stp ?_; try with_reducible exact True.intro
    rw [nt, if_pos hz]
  refine stp ?_; try with_reducible exact True.intro
  refine ⟨Nat, fun i => i ≤ l.length, fun i => l.length - i, fun i => [(3, .own 0 0 i), (10, .il l), (11, .i l.length), (12, .i i)], fun i => [.arr .str ((l.map ito).take i) true], ⟨0, (fitK [] [0]), Nat.zero_le _⟩, fun i hi => ?_⟩
  dsimp only at hi ⊢
  have hr := In64_rd h i
  refine stp ?_; try with_reducible exact True.intro
  refine Br.mk (fun h1 => ?_) (fun h1 => ?_) <;> simp [-Int.ofNat_toNat] at h1
  · refine stp ?_; try with_reducible exact True.intro
    refine useT ((FormatIntI _ hr.1 hr.2).toT) ?_; try with_reducible exact True.intro
    refine ⟨i + 1, ⟨.frz [], [2], ⟨rfl, rfl, rfl, rfl, trivial⟩, ⟨?_, trivial⟩, by decide, rfl, rfl, rfl⟩, by first | ((try dsimp only); omega) | (simp; omega), by first | ((try dsimp only); omega) | (simp; omega)⟩
    rw [take_map_succ l (by omega)]
    refine congrArg (fun x => some (Obj.arr .str x true)) ?_
    simp [rd, List.take_take]
  · obtain rfl : i = l.length := by omega
    rw [take_ito]
    refine stp ?_; try with_reducible exact True.intro
    refine useT ((JoinI (l.map ito) ⟨#[44]⟩ (by omega)).toT) ?_; try with_reducible exact True.intro
    rw [nt, if_neg hz]
theorem FnExactNumbersText (l : List Int) (hn : (l.length : Int) ≤ 140737488355328) (h : In64 l) : ConS Tryd.prog 3 [.il l] (.b true) := by
  refine conS_of hmix hTab Tryd.func3 rfl rfl (by kernel_rfl) (by show 1 ≤ Tryd.f3.ntmps; decide) rfl ?_
  refine stp ?_; try with_reducible exact True.intro
  refine Br.mk (fun hz => ?_) (fun hz => ?_) <;> simp [-Int.ofNat_toNat] at hz
  · refine stp ?_; try with_reducible exact True.intro
  refine stp ?_; try with_reducible exact True.intro
  refine useT (toIntS l (by omega)) ?_; try with_reducible exact True.intro
  refine useT ((NumbersTextS l (by omega) h).toT) ?_; try with_reducible exact True.intro
  refine useT (toIntS l (by omega)) ?_; try with_reducible exact True.intro
  refine useT ((NumbersTextI l (by omega) h).toT) ?_; try with_reducible exact True.intro
  rw [show (!(nt l).toList == (nt l).toList) = false by simp]
  refine stp ?_; try with_reducible exact True.intro
  refine useT (toIntS l (by omega)) ?_; try with_reducible exact True.intro
  refine useT ((eqIntS l l (by omega)).toT) ?_; try with_reducible exact True.intro
  rw [decide_eq_true rfl]
  refine stp ?_; try with_reducible exact True.intro
end Go.Proofs.YtaoepnmhflmhhaaDoorTv
end
