-- Made by a program of this session (wip/tools/printx.py) on top of the kit's print: a text of this session's own.
import Derived.Test.YtaamfciheanedaaProg
import Derived.Below
import Derived.Deep.Draws
import Derived.Deep.AppendLies
import Derived.Maps.AppendAt
import Derived.OwnWalk
import Derived.Laws.BytesArg
import Derived.Laws.MakeOwn
import Derived.Laws.OwnMore
import Derived.Deep.OwnRows
import Derived.Tactics
import Derived.Lib.ConvBytes
import Derived.Laws.Slices
import Derived.WalkKit
import Derived.KernelRfl
import Derived.RowKit3
import Derived.Deep.LoopGhost
import Derived.Deep.QuietTactic
import Derived.BigQuiet
import Derived.WideLaws
import Derived.Deep.DeepCutAuto
import Derived.Deep.CutBlock
import Derived.Deep.RegionHeld3
import Derived.Laws.Rows
import Derived.Lib.AppendStr
import Derived.ArgAppend
import Derived.Laws.IdiomCopy
import Derived.OrdersHeld
import Derived.Laws.BitsLemmas
import Derived.RowKit
import Derived.Test.YtaamfciheanedaaWWords
import Derived.Test.YtaamfciheanedaaWLast
import Derived.Test.YtaamfciheanedaaWTab
import Derived.Test.YtaamfciheanedaaWFour
import Derived.Test.YtaamfciheanedaaWQPut
import Derived.Test.YtaamfciheanedaaWApart
import Derived.Test.YtaamfciheanedaaWArr
import Derived.Test.YtaamfciheanedaaWZeros
import Derived.Test.YtaamfciheanedaaWFoot
import Derived.Test.YtaamfciheanedaaWKept
import Derived.Test.YtaamfciheanedaaWShare
import Derived.Test.YtaamfciheanedaaWN
import Derived.Test.YtaamfciheanedaaWFootNe
import Derived.Test.YtaamfciheanedaaWAt
import Derived.Test.YtaamfciheanedaaWEqStruct
import Derived.Test.YtaamfciheanedaaWRepsOne
import Derived.Test.YtaamfciheanedaaWInv
import Derived.Test.YtaamfciheanedaaWInvWords
import Derived.Test.YtaamfciheanedaaWGuard
import Derived.Test.YtaamfciheanedaaWNEv
import Derived.Test.YtaamfciheanedaaWMore
namespace Go.Proofs.Ytaamfciheanedaa.PFnExactSimpleWords
open Go.RowKit Go.Proofs.YtaamfciheanedaaW.PrintWords Go.Proofs.YtaamfciheanedaaW.PrintLast Go.Proofs.YtaamfciheanedaaW.PrintMore
attribute [local go_sem] max2_int min2_int max_two min_two max_three min_three max_four min_four   -- for this text's walks alone
set_option linter.unusedVariables false
set_option linter.unusedSimpArgs false



def errW : Option Int → Value
  | none => .nilIface
  | some c => .iface 0 (.int .i64 c)
theorem errW_none : errW none = .nilIface := rfl
theorem errW_some (c : Int) : errW (some c) = .iface 0 (.int .i64 c) := rfl

theorem cell_set_map (w : World) (p : Addr) (v : Value) : (w.setCell p v).cell? p = (w.cell? p).map (fun _ => v) := by
  cases h : w.cell? p with
  | some u => rw [World.cell?_setCell_same _ _ _ h]; rfl
  | none =>
    simp only [World.setCell, World.cell?, Array.getElem?_modify, ↓reduceIte] at h ⊢
    cases hb : w.heap[p.block]? with
    | none => rfl
    | some o =>
      rw [hb] at h
      cases o with
      | cells c e f =>
        simp only [Option.map_some] at h ⊢
        cases hs : p.spot.isSome with
        | true => simp
        | false =>
          rw [hs] at h
          simp only [Bool.false_eq_true, if_false] at h ⊢
          rw [Array.getElem?_setIfInBounds_self]
          have : c.size ≤ p.off := by
            rcases Nat.lt_or_ge p.off c.size with h' | h'
            · rw [Array.getElem?_eq_getElem h'] at h; cases h
            · exact h'
          rw [if_neg (by omega)]
          rfl
      | _ => rfl
theorem rr_len {α : Type} {Rr : α → List Value → Prop} {sz : Nat} {w : World} {A : Option Addr} {n m : Nat} {xs : List α} (h : ReadsRow Rr sz w A n xs) (e : n = m) : ReadsRow Rr sz w A m xs := e ▸ h

theorem info3 : (Try.prog.info? 3).map (fun i => (i.zero, i.size, i.bytes)) = some (some (.int .i64 0), 1, 8) := by kernel_rfl
theorem info32 : (Try.prog.info? 32).map (fun i => (i.zero, i.size, i.bytes)) = some (some (.slice none 0 0), 1, 24) := by kernel_rfl
-- the values' own types
def rd_L1 (xs : List (List Int)) (i : Int) : (List Int) := xs.getD i.toNat ([] : List Int)
theorem at_L1 {w : World} {A : Option Addr} {n : Nat} {xs : List (List Int)} (h : Kd.C (Kd.slice 3 (Kd.int .i64)) w A n xs) (i : Int) (h0 : 0 ≤ i) (h1 : i < n) : ∃ ad A0 c0, A = some ad ∧ w.cell? (ad.add i.toNat) = some (.slice A0 (rd_L1 xs i).length c0) ∧ (rd_L1 xs i).length ≤ c0 ∧ (Kd.int .i64).C w A0 (rd_L1 xs i).length (rd_L1 xs i) := by
  obtain ⟨ad, c, e, _, hK, hc0⟩ := Kd.C_get h ([] : List Int) i h0 h1
  have hc : ∀ j u, c[j]? = some u → w.cell? (ad.add (i.toNat * 1 + j)) = some u := hc0
  obtain ⟨A0, c0, rfl, l0, g0⟩ := hK
  exact ⟨ad, A0, c0, e, by have hq := hc 0 _ rfl; rwa [Nat.mul_one, Nat.add_zero] at hq, l0, g0⟩

end Go.Proofs.Ytaamfciheanedaa.PFnExactSimpleWords
