-- Made by a program of this session (wip/tools/printx.py) on top of the kit's print: a text of this session's own.
import Derived.Test.YtdhklpfdfcfffaaProg
import Derived.Below
import Derived.Deep.Draws
import Derived.Deep.AppendLies
import Derived.Maps.AppendAt
import Derived.OwnWalk
import Derived.Laws.BytesArg
import Derived.Laws.MakeOwn
import Derived.Laws.OwnMore
import Derived.Deep.OwnRows
import Derived.Tactics
import Derived.Lib.ConvBytes
import Derived.Laws.Slices
import Derived.WalkKit
import Derived.KernelRfl
import Derived.RowKit3
import Derived.Deep.LoopGhost
import Derived.Deep.QuietTactic
import Derived.BigQuiet
import Derived.WideLaws
import Derived.Deep.DeepCutAuto
import Derived.Deep.CutBlock
import Derived.Deep.RegionHeld3
import Derived.Laws.Rows
import Derived.Lib.AppendStr
import Derived.ArgAppend
import Derived.Laws.IdiomCopy
import Derived.OrdersHeld
import Derived.Laws.BitsLemmas
import Derived.RowKit
import Derived.Test.YtdhklpfdfcfffaaWWords
import Derived.Test.YtdhklpfdfcfffaaWLast
import Derived.Test.YtdhklpfdfcfffaaWTab
import Derived.Test.YtdhklpfdfcfffaaWFour
import Derived.Test.YtdhklpfdfcfffaaWQPut
import Derived.Test.YtdhklpfdfcfffaaWApart
import Derived.Test.YtdhklpfdfcfffaaWArr
import Derived.Test.YtdhklpfdfcfffaaWZeros
import Derived.Test.YtdhklpfdfcfffaaWFoot
import Derived.Test.YtdhklpfdfcfffaaWKept
import Derived.Test.YtdhklpfdfcfffaaWShare
import Derived.Test.YtdhklpfdfcfffaaWN
import Derived.Test.YtdhklpfdfcfffaaWFootNe
import Derived.Test.YtdhklpfdfcfffaaWAt
import Derived.Test.YtdhklpfdfcfffaaWEqStruct
import Derived.Test.YtdhklpfdfcfffaaWRepsOne
import Derived.Test.YtdhklpfdfcfffaaWInv
import Derived.Test.YtdhklpfdfcfffaaWInvWords
import Derived.Test.YtdhklpfdfcfffaaWGuard
import Derived.Test.YtdhklpfdfcfffaaWNEv
import Derived.Test.YtdhklpfdfcfffaaWMore
namespace Go.Proofs.Ytdhklpfdfcfffaa.PFnExactPowerOf
open Go.RowKit Go.Proofs.YtdhklpfdfcfffaaW.PrintWords Go.Proofs.YtdhklpfdfcfffaaW.PrintLast Go.Proofs.YtdhklpfdfcfffaaW.PrintMore
attribute [local go_sem] max2_int min2_int max_two min_two max_three min_three max_four min_four   -- for this text's walks alone
set_option linter.unusedVariables false
set_option linter.unusedSimpArgs false



def errW : Option Int → Value
  | none => .nilIface
  | some c => .iface 0 (.int .i64 c)
theorem errW_none : errW none = .nilIface := rfl
theorem errW_some (c : Int) : errW (some c) = .iface 0 (.int .i64 c) := rfl

theorem cell_set_map (w : World) (p : Addr) (v : Value) : (w.setCell p v).cell? p = (w.cell? p).map (fun _ => v) := by
  cases h : w.cell? p with
  | some u => rw [World.cell?_setCell_same _ _ _ h]; rfl
  | none =>
    simp only [World.setCell, World.cell?, Array.getElem?_modify, ↓reduceIte] at h ⊢
    cases hb : w.heap[p.block]? with
    | none => rfl
    | some o =>
      rw [hb] at h
      cases o with
      | cells c e f =>
        simp only [Option.map_some] at h ⊢
        cases hs : p.spot.isSome with
        | true => simp
        | false =>
          rw [hs] at h
          simp only [Bool.false_eq_true, if_false] at h ⊢
          rw [Array.getElem?_setIfInBounds_self]
          have : c.size ≤ p.off := by
            rcases Nat.lt_or_ge p.off c.size with h' | h'
            · rw [Array.getElem?_eq_getElem h'] at h; cases h
            · exact h'
          rw [if_neg (by omega)]
          rfl
      | _ => rfl
theorem rr_len {α : Type} {Rr : α → List Value → Prop} {sz : Nat} {w : World} {A : Option Addr} {n m : Nat} {xs : List α} (h : ReadsRow Rr sz w A n xs) (e : n = m) : ReadsRow Rr sz w A m xs := e ▸ h

theorem info3 : (Try.prog.info? 3).map (fun i => (i.zero, i.size, i.bytes)) = some (some (.int .i64 0), 1, 8) := by kernel_rfl
-- the values' own types

end Go.Proofs.Ytdhklpfdfcfffaa.PFnExactPowerOf
