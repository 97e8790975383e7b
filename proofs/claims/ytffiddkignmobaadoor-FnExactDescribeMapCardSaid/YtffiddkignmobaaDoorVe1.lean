/- A logic of abstract values and heaps over the model's steps, proved sound: for every program that follows mixed orders. -/
import Derived.Orders
import Derived.Lib.LaidTab
import Derived.Lib.ItoaNum
import Derived.Below
import Derived.Laws.Tables
import Derived.Laws.StructEq
import Derived.Laws.BytesArg
set_option linter.unusedVariables false
set_option linter.unusedSimpArgs false
section
/- VE, part A0: a sentence on the world that the first blocks carry: strconv's table of powers of ten lies where the row says. -/
namespace Go.Proofs.YtffiddkignmobaaDoorVe
def sideT (w : World) : Prop := ((w.heap[1]?).bind fun | .cells cs _ _ => some cs | _ => none) = some (Lib.pow10Tab.map fun z => Value.int .u64 z).toArray
def sideB : Nat := 2
theorem side_stab {w w' : World} (h : sideT w) (k : ∀ k, k < sideB → w'.heap[k]? = w.heap[k]?) : sideT w' := by
  unfold sideT at h ⊢
  rw [k 1 (by decide)]
  exact h
theorem side_size {w : World} (h : sideT w) : sideB ≤ w.heap.size := by
  unfold sideT at h
  show 1 < _
  rcases Nat.lt_or_ge 1 w.heap.size with h' | h'
  · exact h'
  · rw [Array.getElem?_eq_none h'] at h; cases h
end Go.Proofs.YtffiddkignmobaaDoorVe
end
section
/- VE, part A: abstract values, abstract heaps, what each operation does to them. No world, no addresses, no capacities, no draws. -/
namespace Go.Proofs.YtffiddkignmobaaDoorVe
/-- Data that is only read: what came in, by value. A slice: its elements' number and its cells. -/
inductive FT where
  | int (k : IntKind) (n : Int)
  | bool (b : Bool)
  | str (s : ByteArray)
  | nil
  | sl (n : Nat) (cs : List FT)
  | agg (cs : List FT)
/-- Abstract values. 'sl s j g off n': n elements of the own object (s, j) in its generation g, from cell off on. 'ptr': the address of such a cell. 'fz': frozen data. 'fptr': an address inside frozen data: the cells from there on. -/
inductive AV where
  | int (k : IntKind) (n : Int)
  | bool (b : Bool)
  | str (s : ByteArray)
  | nil
  | fz (n : Nat) (cs : List FT)
  | sl (s j g off n : Nat)
  | ptr (s j g off : Nat)
  | fptr (cs : List FT)
  | mp (s j g : Nat)
  | nilp
  | agg (cs : List AV)
  | tup (vs : List AV)
  | fn (f : Nat) (caps : List AV)
  | nilf
  | undef
instance : Inhabited AV := ⟨.undef⟩
instance : Inhabited FT := ⟨.nil⟩
/-- The mark of a map among objects: no element of a slice has so many cells. A map's cells: key, value, key, value .. in the order in which they came. -/
@[irreducible] def MZ : Nat := 4294967296
/-- An own object: its generation (an append to it ends the one before), the cells of one element, its cells. -/
structure Ob where
  g : Nat
  z : Nat
  cells : List AV
abbrev Heap := Nat → List Ob
def Heap.upd (H : Heap) (s : Nat) (v : List Ob) : Heap := fun t => if t = s then v else H t
def Heap.ob (H : Heap) (s j : Nat) : Option Ob := (H s)[j]?
def Heap.put (H : Heap) (s j : Nat) (o : Ob) : Heap := H.upd s ((H s).set j o)
mutual
def FT.av : FT → AV
  | .int k n => .int k n
  | .bool b => .bool b
  | .str s => .str s
  | .nil => .nil
  | .sl n cs => .fz n cs
  | .agg cs => .agg (FT.avs cs)
def FT.avs : List FT → List AV
  | [] => []
  | c :: cs => c.av :: FT.avs cs
end
mutual
def ofVal : Value → AV
  | .int k n => .int k n
  | .bool b => .bool b
  | .string s => .str s
  | .slice none 0 0 => .nil
  | .pointer none => .nilp
  | .nilFunc => .nilf
  | .agg cs => .agg (ofVals cs.toList)
  | _ => .undef
def ofVals : List Value → List AV
  | [] => []
  | c :: cs => ofVal c :: ofVals cs
end
def AV.cells : AV → List AV
  | .agg cs => cs
  | v => [v]
def AV.ok : AV → Bool
  | .undef => false
  | _ => true
def AV.isCell : AV → Bool
  | .agg _ => false
  | .tup _ => false
  | .undef => false
  | .fptr _ => false
  | _ => true
abbrev Env := Nat → AV
def Env.upd (E : Env) (t : Nat) (v : AV) : Env := fun u => if u = t then v else E u
def Env.put (E : Env) : Option Nat → AV → Env
  | some t, v => E.upd t v
  | none, _ => E
def Env.ev (E : Env) : Operand → AV
  | .tmp t => E t
  | .const v => ofVal v
  | .func f => .fn f []
  | .global _ => .undef
section
variable (P : Program)
/-- What an operation needs to know of a type. -/
inductive TD where
  | sl (e : Nat)
  | arr (n e : Nat)
  | st (fs : List (Nat × Nat))
  | int (k : IntKind)
  | bool
  | str
  | map (k e : Nat)
  | other
structure TI where
  d : TD
  size : Nat
  bytes : Nat
  zero : List AV
def sz (t : TypeId) : Nat := ((P.info? t).map (·.size)).getD 0
def tdOf : TypeDesc → TD
  | .slice e => .sl e
  | .array n e => .arr n e
  | .struct fs => .st (fs.toList.map fun f => (f.offset, sz P f.type))
  | .int k => .int k
  | .bool => .bool
  | .string => .str
  | .map k e => .map k e
  | _ => .other
def okD : TypeDesc → Bool
  | .struct fs => fs.toList.all fun f => (P.info? f.type).isSome
  | .array _ e => (P.info? e).isSome
  | _ => true
def TD.isAgg : TD → Bool
  | .st _ | .arr _ _ => true
  | _ => false
def oneC : Value → Bool
  | .agg _ | .tuple _ => false
  | _ => true
def ti (t : TypeId) : Option TI := match P.underlying t, P.info? t with
  | some d, some i => match i.zero with
    | some z => if (okD P d && (Nat.blt i.size 4294967296 && ((tdOf P d).isAgg || oneC z))) = true then some ⟨tdOf P d, i.size, i.bytes, (ofVal z).cells⟩ else none
    | none => none
  | _, _ => none
/-- a part of aggregate cells -/
def fillA (place : Nat → Option (Nat × Nat)) (cells : List AV) : List (Nat × AV) → Option (List AV)
  | [] => some cells
  | (i, v) :: rest =>
    match place i with
    | none => none
    | some (off, size) =>
      if v.cells.length ≠ size ∨ off + v.cells.length > cells.length ∨ v.ok = false then none
      else fillA place (cells.take off ++ v.cells ++ cells.drop (off + v.cells.length)) rest
def binA (op : BinOp) (x y : AV) : Option AV :=
  match x, y with
  | .int k a, .int k' b =>
    match op with
    | .shl => if 0 ≤ b then some (.int k (k.wrap (a * 2 ^ (min b.toNat k.bits)))) else none
    | .shr => if 0 ≤ b then some (.int k (a.fdiv (2 ^ (min b.toNat k.bits)))) else none
    | _ =>
      if k ≠ k' then none else
      match op with
      | .add => some (.int k (k.wrap (a + b)))
      | .sub => some (.int k (k.wrap (a - b)))
      | .mul => some (.int k (k.wrap (a * b)))
      | .quo => if b = 0 then none else some (.int k (k.wrap (a.tdiv b)))
      | .rem => if b = 0 then none else some (.int k (a.tmod b))
      | .and => some (.int k (k.wrap (BitVec.ofInt k.bits a &&& BitVec.ofInt k.bits b).toNat))
      | .or => some (.int k (k.wrap (BitVec.ofInt k.bits a ||| BitVec.ofInt k.bits b).toNat))
      | .xor => some (.int k (k.wrap (BitVec.ofInt k.bits a ^^^ BitVec.ofInt k.bits b).toNat))
      | .eql => some (.bool (a == b))
      | .neq => some (.bool (a != b))
      | .lss => some (.bool (a < b))
      | .leq => some (.bool (a ≤ b))
      | .gtr => some (.bool (a > b))
      | .geq => some (.bool (a ≥ b))
      | _ => none
  | .str a, .str b =>
    match op with
    | .add => if a.size + b.size ≤ 140737488355328 then some (.str (a ++ b)) else none
    | .eql => some (.bool (a.toList == b.toList))
    | .neq => some (.bool (!(a.toList == b.toList)))
    | _ => none
  | _, _ => none
def unA (op : UnOp) (x : AV) : Option AV :=
  match op, x with
  | .neg, .int k n => some (.int k (k.wrap (0 - n)))
  | .not, .bool b => some (.bool !b)
  | _, _ => none
/-- The cells that an address leads to. -/
def loadA (H : Heap) (n : Nat) : AV → Option (List AV)
  | .ptr s j g off => match H.ob s j with
    | some o => if o.g = g ∧ off + n ≤ o.cells.length then some ((o.cells.drop off).take n) else none
    | none => none
  | .fptr cs => if n ≤ cs.length then some (FT.avs (cs.take n)) else none
  | _ => none
def idxOf (n : Nat) : AV → Option Nat
  | .int _ i => if 0 ≤ i ∧ i < (n : Int) then some i.toNat else none
  | _ => none
/-- The elements of a slice, as cells. -/
def rowA (H : Heap) (z : Nat) : AV → Option (List AV)
  | .nil => some []
  | .fz n cs => if cs.length = n * z then some (FT.avs cs) else none
  | .str s => if z = 1 then some (s.data.toList.map fun c => .int .u8 (c.toNat : Int)) else none
  | .sl s j g off n => if n = 0 then some [] else match H.ob s j with
    | some o => if o.g = g ∧ o.z = z ∧ off + n * z ≤ o.cells.length then some ((o.cells.drop off).take (n * z)) else none
    | none => none
  | _ => none
def lenA : AV → Option Nat
  | .nil => some 0
  | .fz n _ => some n
  | .sl _ _ _ _ n => some n
  | .str s => some s.size
  | _ => none
def okInts (l h n : Int) : Bool := decide (0 ≤ l ∧ l ≤ h ∧ h ≤ n)
def lowA : Option AV → Option Int
  | none => some 0
  | some (.int _ i) => some i
  | _ => none
def highA (n : Nat) : Option AV → Option Int
  | none => some n
  | some (.int _ i) => some i
  | _ => none
def addA (z n : Nat) (H : Heap) (s : Nat) (a : AV) (m : Nat) (xs : List AV) : Option (AV × Heap) :=
  match a with
  | .nil => if m = 0 then some (.nil, H) else some (.sl s 0 0 0 m, H.upd s [⟨0, z, xs⟩])
  | .sl s' j g off k => match H.ob s' j with
    | some o => if o.g = g ∧ o.z = z ∧ off + k * z ≤ o.cells.length ∧ k + m ≤ n then
        some (.sl s' j (g + 1) 0 (k + m), H.put s' j ⟨g + 1, z, (o.cells.drop off).take (k * z) ++ xs⟩) else none
    | none => none
  | _ => none
def TD.isSS : TD → Bool
  | .sl _ => true
  | .str => true
  | _ => false
/-- The numbers of bytes. -/
def numsU8 : List AV → Option (List Int)
  | [] => some []
  | .int .u8 n :: cs => (numsU8 cs).map (n :: ·)
  | _ => none
def strA (H : Heap) (e : TypeId) (v : AV) : Option (AV × Heap) := match ti P e, lenA v with
  | some ⟨.int .u8, _, _, _⟩, some m => match v with
    | .str _ => none
    | v => match rowA H 1 v with
      | some cs => if cs.length = m then (numsU8 cs).map fun ns => (.str (strOfNums ns), H) else none
      | none => none
  | _, _ => none
/-- What a builtin gives. -/
def builtinA (s : Nat) (H : Heap) : Builtin → List TypeId → List AV → Option (AV × Heap)
  | .len, [t], [x] => match ti P t, x with
    | some ⟨.str, _, _, _⟩, .str b => some (.int .i64 b.size, H)
    | some ⟨.sl _, _, _, _⟩, .nil => some (.int .i64 0, H)
    | some ⟨.sl _, _, _, _⟩, .fz n _ => some (.int .i64 n, H)
    | some ⟨.sl _, _, _, _⟩, .sl _ _ _ _ n => some (.int .i64 n, H)
    | some ⟨.arr n _, _, _, _⟩, _ => some (.int .i64 n, H)
    | _, _ => none
  | .max, _, [.int k a, .int k' b] => some (.int k (if b > a then b else a), H)
  | .min, _, [.int k a, .int k' b] => some (.int k (if b < a then b else a), H)
  | .append, [t, u], [a, x] => match ti P t, ti P u with
    | some ⟨.sl e, _, _, _⟩, some U => if U.d.isSS = false then none else match ti P e with
      | some T => if T.size = 0 ∨ T.bytes = 0 then none else match rowA H T.size x, lenA x with
        | some xs, some m => if xs.length = m * T.size ∧ m * T.bytes ≤ 35184372088832 ∧ T.zero.length = T.size ∧ xs.all AV.isCell = true then addA T.size (35184372088832 / T.bytes) H s a m xs else none
        | _, _ => none
      | none => none
    | _, _ => none
  | .copy, [t, u], [.sl s' j g off n, x] => match ti P t, ti P u with
    | some ⟨.sl e, _, _, _⟩, some ⟨.sl _, _, _, _⟩ => match ti P e with
      | some T => match rowA H T.size x, lenA x, H.ob s' j with
        | some xs, some m, some o => if o.g = g ∧ o.z = T.size ∧ xs.length = m * T.size ∧ off + n * T.size ≤ o.cells.length ∧ xs.all AV.isCell = true then
            some (.int .i64 (min m n : Nat), H.put s' j ⟨g, o.z, o.cells.take off ++ xs.take (min m n * T.size) ++ o.cells.drop (off + min m n * T.size)⟩) else none
        | _, _, _ => none
      | none => none
    | _, _ => none
  | _, _, _ => none
/-- Structs of numbers: their fields, one cell each. -/
def okFs : List Field → Nat → Bool
  | [], _ => true
  | f :: fs, i => f.name != "_" && Nat.beq f.offset i && (match P.underlying f.type with | some (.int _) => true | _ => false) && okFs fs (i + 1)
def okEq (t : TypeId) (n : Nat) : Bool := match P.underlying t with
  | some (.struct fs) => Nat.beq fs.size n && okFs P fs.toList 0 && !P.stoodInHeld t && !P.eqGuardType P.depth t
  | _ => false
def eqAs : List AV → List AV → Option Bool
  | [], [] => some true
  | .int k a :: xs, .int k' b :: ys => if k = k' then (eqAs xs ys).map fun r => (a == b) && r else none
  | _, _ => none
/-- Equality of what is no number and no string. -/
def eqA (t : TypeId) (x y : AV) : Option Bool := match ti P t with
  | some ⟨.bool, _, _, _⟩ => match x, y with
    | .bool a, .bool b => some (a == b)
    | _, _ => none
  | some ⟨.sl _, _, _, _⟩ => match x, y with
    | .nil, .nil => some true
    | .sl _ _ _ _ _, .nil => some false
    | .fz n _, .nil => if n = 0 then none else some false
    | _, _ => none
  | some ⟨.st _, _, _, _⟩ => match x, y with
    | .agg xs, .agg ys => if okEq P t xs.length = true then eqAs xs ys else none
    | _, _ => none
  | _ => none
def cmpA (op : BinOp) (t : TypeId) (x y : AV) : Option AV := match op with
  | .eql => (eqA P t x y).map fun b => .bool b
  | .neq => (eqA P t x y).map fun b => .bool (!b)
  | _ => none
/-- The value behind a key, if there is one. -/
def findE (k : IntKind) (n : Int) : List AV → Option (Option AV)
  | [] => some none
  | .int k' m :: v :: cs => if k = k' then (if n = m then some (some v) else findE k n cs) else none
  | _ => none
def setE (k : IntKind) (n : Int) (x : AV) : List AV → List AV
  | .int k' m :: v :: cs => if n = m then .int k n :: x :: cs else .int k' m :: v :: setE k n x cs
  | _ => [.int k n, x]
def putM (H : Heap) (t : TypeId) (m k x : AV) : Option (AV × Heap) := match ti P t, m, k with
  | some ⟨.map kt _, _, _, _⟩, .mp s' j g, .int kd n => match ti P kt, H.ob s' j with
    | some ⟨.int q, _, _, _⟩, some o => match findE kd n o.cells with
      | some _ => if q = kd ∧ o.g = g ∧ o.z = MZ ∧ x.isCell = true then some (.undef, H.put s' j ⟨g, MZ, setE kd n x o.cells⟩) else none
      | none => none
    | _, _ => none
  | _, _, _ => none
def lookE (ok : Bool) (z : AV) : Option AV → AV
  | some v => match ok with | true => .tup [v, .bool true] | false => v
  | none => match ok with | true => .tup [z, .bool false] | false => z
def getM (H : Heap) (t : TypeId) (m k : AV) (ok : Bool) : Option (AV × Heap) := match ti P t, m, k with
  | some ⟨.map kt e, _, _, _⟩, .mp s' j g, .int kd n => match ti P kt, ti P e, H.ob s' j with
    | some ⟨.int q, _, _, _⟩, some ⟨d, _, _, [z]⟩, some o => match findE kd n o.cells with
      | some r => if q = kd ∧ o.g = g ∧ o.z = MZ ∧ d.isAgg = false then some (lookE ok z r, H) else none
      | none => none
    | _, _, _ => none
  | _, _, _ => none
/-- What an operation (no call of a function) gives, and the heap behind it; s: the slot of what it makes. -/
def opE (s : Nat) (ρ : Operand → AV) (H : Heap) : Op → Option (AV × Heap)
  | .move x => some (ρ x, H)
  | .assign x => some (ρ x, H)
  | .pick c a b => match ρ c with
    | .bool true => some (ρ a, H)
    | .bool false => some (ρ b, H)
    | _ => none
  | .alloc t => match ti P t with
    | some T => if T.zero.all AV.isCell = true then some (.ptr s 0 0 0, H.upd s [⟨0, 0, T.zero⟩]) else none
    | none => none
  | .box _ x => if (ρ x).cells.all AV.isCell = true then some (.ptr s 0 0 0, H.upd s [⟨0, 0, (ρ x).cells⟩]) else none
  | .build t ps => match ti P t with
    | some ⟨.st fs, _, _, z⟩ => (fillA (fun i => fs[i]?) z (ps.toList.map fun p => (p.1, ρ p.2))).map fun cs => (.agg cs, H)
    | some ⟨.arr _ e, _, _, z⟩ => (fillA (fun i => some (i * sz P e, sz P e)) z (ps.toList.map fun p => (p.1, ρ p.2))).map fun cs => (.agg cs, H)
    | _ => none
  | .buildSlice t n ps => match ti P t with
    | some ⟨.sl e, _, _, _⟩ => match ti P e with
      | some T => if n * T.size > 4096 ∨ T.zero.length ≠ T.size ∨ T.size = 0 then none else
        match fillA (fun i => some (i * T.size, T.size)) (List.replicate n T.zero).flatten (ps.toList.map fun p => (p.1, ρ p.2)) with
        | some cs => if cs.all AV.isCell = true then some (.sl s 0 0 0 n, H.upd s [⟨0, T.size, cs⟩]) else none
        | none => none
      | none => none
    | _ => none
  | .load t a => match ti P t with
    | some T => match loadA H T.size (ρ a) with
      | some cs => if T.d.isAgg = true then some (.agg cs, H) else match cs with
        | [c] => some (c, H)
        | _ => none
      | none => none
    | none => none
  | .store t a x => match ti P t, ρ a with
    | some T, .ptr s' j g off => match H.ob s' j with
      | some o => if o.g = g ∧ (ρ x).cells.length = T.size ∧ off + T.size ≤ o.cells.length ∧ (ρ x).cells.all AV.isCell = true then
          some (.undef, H.put s' j ⟨g, o.z, o.cells.take off ++ (ρ x).cells ++ o.cells.drop (off + T.size)⟩) else none
      | none => none
    | _, _ => none
  | .nilCheck x => match ρ x with
    | .ptr s' j g off => some (.ptr s' j g off, H)
    | _ => none
  | .binOp op t x y _ => match binA op (ρ x) (ρ y) with
    | some v => some (v, H)
    | none => (cmpA P op t (ρ x) (ρ y)).map fun v => (v, H)
  | .unOp op _ x => (unA op (ρ x)).map fun v => (v, H)
  | .convert src dst x => match ti P src, ti P dst, ρ x with
    | some _, some ⟨.int k, _, _, _⟩, .int _ n => some (.int k (k.wrap n), H)
    | some ⟨.sl e, _, _, _⟩, some ⟨.str, _, _, _⟩, v => strA P H e v
    | _, _, _ => none
  | .makeFunc (.func f) first caps => if first.size = 0 then some (.fn f (caps.toList.map ρ), H) else none
  | .makeSlice t l c => match ti P t, ρ l, ρ c with
    | some ⟨.sl e, _, _, _⟩, .int .i64 n, .int .i64 m => match ti P e with
      | some T => if n = m ∧ 0 ≤ n ∧ n.toNat * T.bytes ≤ 140737488355328 ∧ n ≤ 140737488355328 ∧ T.zero.length = T.size ∧ T.size ≠ 0 ∧ T.zero.all AV.isCell = true then
          some (.sl s 0 0 0 n.toNat, H.upd s [⟨0, T.size, (List.replicate n.toNat T.zero).flatten⟩]) else none
      | none => none
    | _, _, _ => none
  | .slice t x lo hi mx => match mx, ti P t, ρ x with
    | none, some ⟨.str, _, _, _⟩, .str b => match lowA (lo.map ρ), highA b.size (hi.map ρ) with
      | some l, some h => if okInts l h b.size = true then some (.str (b.extract l.toNat h.toNat), H) else none
      | _, _ => none
    | none, some ⟨.sl e, _, _, _⟩, .sl s' j g off n => match ti P e, lowA (lo.map ρ), highA n (hi.map ρ), H.ob s' j with
      | some T, some l, some h, some o => if okInts l h n = true ∧ o.z = T.size then some (.sl s' j g (off + l.toNat * T.size) (h - l).toNat, H) else none
      | _, _, _, _ => none
    | none, some ⟨.sl e, _, _, _⟩, .fz n cs => match ti P e, lowA (lo.map ρ), highA n (hi.map ρ) with
      | some T, some l, some h => if okInts l h n = true then some (.fz (h - l).toNat ((cs.drop (l.toNat * T.size)).take ((h - l).toNat * T.size)), H) else none
      | _, _, _ => none
    | none, some ⟨.sl e, _, _, _⟩, .nil => match ti P e, lowA (lo.map ρ), highA 0 (hi.map ρ) with
      | some _, some l, some h => if okInts l h (0 : Nat) = true then some (.nil, H) else none
      | _, _, _ => none
    | _, _, _ => none
  | .fieldAddr t x f => match ti P t, ρ x with
    | some ⟨.st fs, _, _, _⟩, .ptr s' j g off => match fs[f]? with
      | some (o, n) => if n = 0 then none else some (.ptr s' j g (off + o), H)
      | none => none
    | _, _ => none
  | .indexAddr t x i => match ti P t, ρ x with
    | some ⟨.sl e, _, _, _⟩, .sl s' j g off n => match ti P e, idxOf n (ρ i) with
      | some T, some m => some (.ptr s' j g (off + m * T.size), H)
      | _, _ => none
    | some ⟨.sl e, _, _, _⟩, .fz n cs => match ti P e, idxOf n (ρ i) with
      | some T, some m => some (.fptr (cs.drop (m * T.size)), H)
      | _, _ => none
    | some ⟨.arr n e, _, _, _⟩, .ptr s' j g off => match ti P e, idxOf n (ρ i) with
      | some T, some m => some (.ptr s' j g (off + m * T.size), H)
      | _, _ => none
    | _, _ => none
  | .index t x i => match ti P t, ρ x with
    | some ⟨.str, _, _, _⟩, .str b => match idxOf b.size (ρ i) with
      | some m => (b.data[m]?).map fun c => (.int .u8 c.toNat, H)
      | none => none
    | _, _ => none
  | .extract x i => match ρ x with
    | .tup vs => (vs[i]?).map fun v => (v, H)
    | _ => none
  | .makeMap _ r => match r with
    | none => some (.mp s 0 0, H.upd s [⟨0, MZ, []⟩])
    | some _ => none
  | .mapUpdate t m k x => putM P H t (ρ m) (ρ k) (ρ x)
  | .insert t m k x => putM P H t (ρ m) (ρ k) (ρ x)
  | .lookup t m k ok => getM P H t (ρ m) (ρ k) ok
  | .call c => match c.callee with
    | .builtin b => builtinA P s H b c.argTypes.toList (c.args.toList.map ρ)
    | _ => none
  | _ => none
end
end Go.Proofs.YtffiddkignmobaaDoorVe
end
section
/- VE, part B: what it means that a world shows an abstract heap, and what later worlds keep of that. -/
namespace Go.Proofs.YtffiddkignmobaaDoorVe
/-- Where an own object lies: its block and the cell at which it begins there. -/
abbrev Bt := Nat → Nat → Nat × Nat
structure Cx where
  w : World
  Z : Nat → Prop
  β : Bt
  H : Heap
mutual
inductive FR (w : World) (Z : Nat → Prop) : FT → Value → Prop
  | int (k : IntKind) (n : Int) : FR w Z (.int k n) (.int k n)
  | bool (b : Bool) : FR w Z (.bool b) (.bool b)
  | str (s : ByteArray) : FR w Z (.str s) (.string s)
  | nil : FR w Z .nil (.slice none 0 0)
  | sl0 (A : Option Addr) (cap : Nat) : FR w Z (.sl 0 []) (.slice A 0 cap)
  | sl (n cap b off : Nat) (cs : List FT) (vs : List Value) : n ≠ 0 → n ≤ cap → (∀ i v, vs[i]? = some v → w.cell? ⟨b, off + i, none⟩ = some v) → FRL w Z cs vs → Z b → FR w Z (.sl n cs) (.slice (some ⟨b, off, none⟩) n cap)
  | agg (cs : List FT) (vs : List Value) : FRL w Z cs vs → FR w Z (.agg cs) (.agg vs.toArray)
inductive FRL (w : World) (Z : Nat → Prop) : List FT → List Value → Prop
  | nil : FRL w Z [] []
  | cons (c : FT) (cs : List FT) (v : Value) (vs : List Value) : FR w Z c v → FRL w Z cs vs → FRL w Z (c :: cs) (v :: vs)
end
mutual
inductive VR (x : Cx) : AV → Value → Prop
  | int (k : IntKind) (n : Int) : VR x (.int k n) (.int k n)
  | bool (b : Bool) : VR x (.bool b) (.bool b)
  | str (s : ByteArray) : VR x (.str s) (.string s)
  | nil : VR x .nil (.slice none 0 0)
  | fz (n : Nat) (cs : List FT) (v : Value) : FR x.w x.Z (.sl n cs) v → VR x (.fz n cs) v
  | sl (s j g off n cap : Nat) (a : Addr) (o : Ob) : x.H.ob s j = some o → g ≤ o.g → n ≤ cap →
      (o.g = g → ∃ p c e, a = ⟨(x.β s j).1, p, none⟩ ∧ x.w.heap[(x.β s j).1]? = some (.cells c e (0, 0)) ∧ p + cap * o.z ≤ c.size ∧ (cap = 0 ∨ p = (x.β s j).2 + off)) → VR x (.sl s j g off n) (.slice (some a) n cap)
  | ptr (s j g off : Nat) (a : Addr) (o : Ob) : x.H.ob s j = some o → g ≤ o.g → (o.g = g → o.z ≠ MZ ∧ a = ⟨(x.β s j).1, (x.β s j).2 + off, none⟩) → VR x (.ptr s j g off) (.pointer (some a))
  | mp (s j g b : Nat) (o : Ob) : x.H.ob s j = some o → g ≤ o.g → (o.g = g → o.z = MZ ∧ b = (x.β s j).1) → VR x (.mp s j g) (.map (some b))
  | fptr (b off : Nat) (cs : List FT) (vs : List Value) : (∀ i v, vs[i]? = some v → x.w.cell? ⟨b, off + i, none⟩ = some v) → FRL x.w x.Z cs vs → (cs ≠ [] → x.Z b) → VR x (.fptr cs) (.pointer (some ⟨b, off, none⟩))
  | nilp : VR x .nilp (.pointer none)
  | agg (cs : List AV) (vs : List Value) : VRL x cs vs → VR x (.agg cs) (.agg vs.toArray)
  | tup (cs : List AV) (vs : List Value) : VRL x cs vs → VR x (.tup cs) (.tuple vs.toArray)
  | fn (f : Nat) (cs : List AV) (vs : List Value) : VRL x cs vs → VR x (.fn f cs) (.func (.func f) #[] vs.toArray)
  | nilf : VR x .nilf .nilFunc
  | undef (v : Value) : VR x .undef v
inductive VRL (x : Cx) : List AV → List Value → Prop
  | nil : VRL x [] []
  | cons (c : AV) (cs : List AV) (v : Value) (vs : List Value) : VR x c v → VRL x cs vs → VRL x (c :: cs) (v :: vs)
end
/-- A map's entries. -/
inductive ER (x : Cx) : List AV → List MapEntry → Prop
  | nil : ER x [] []
  | cons (k : IntKind) (n : Int) (a : AV) (cs : List AV) (e : MapEntry) (es : List MapEntry) : e.key = .int k n → a.isCell = true → VR x a e.val → ER x cs es → ER x (.int k n :: a :: cs) (e :: es)
/-- A block shows an object. -/
def Shows (x : Cx) (w : World) (p : Nat × Nat) (o : Ob) : Prop :=
  (o.z = MZ ∧ ∃ es clock, w.heap[p.1]? = some (.map es clock) ∧ ER x o.cells es.toList) ∨
  (o.z ≠ MZ ∧ ∃ c e, w.heap[p.1]? = some (.cells c e (0, 0)) ∧ p.2 + o.cells.length ≤ c.size ∧
    ∀ i a, o.cells[i]? = some a → a.isCell = true ∧ ∃ v, c[p.2 + i]? = some v ∧ VR x a v)
/-- The world shows the heap: each object its own block, apart from the frozen ones. -/
structure Rel (x : Cx) : Prop where
  obj : ∀ s j o, x.H.ob s j = some o → Shows x x.w (x.β s j) o
  inj : ∀ s j o s' j' o', x.H.ob s j = some o → x.H.ob s' j' = some o' → (x.β s j).1 = (x.β s' j').1 → s = s' ∧ j = j'
  sep : ∀ s j o, x.H.ob s j = some o → ¬ x.Z (x.β s j).1
  zlt : ∀ k, x.Z k → k < x.w.heap.size
  side : sideT x.w
  sideZ : ∀ k, k < sideB → x.Z k
structure Ext (x y : Cx) : Prop where
  z : ∀ k, x.Z k → y.Z k ∧ y.w.heap[k]? = x.w.heap[k]?
  o : ∀ s j o, x.H.ob s j = some o → ∃ o', y.H.ob s j = some o' ∧ o.g ≤ o'.g ∧ (o'.g = o.g → o'.z = o.z ∧ y.β s j = x.β s j ∧ ∀ c e, x.w.heap[(x.β s j).1]? = some (Obj.cells c e (0, 0)) → ∃ c', y.w.heap[(x.β s j).1]? = some (.cells c' e (0, 0)) ∧ c'.size = c.size)
  keep : ∀ k, k < x.w.heap.size → (∀ s j o, x.H.ob s j = some o → (x.β s j).1 ≠ k) → y.w.heap[k]? = x.w.heap[k]?
  blk : ∀ s j o, y.H.ob s j = some o → (∃ s0 j0 o0, x.H.ob s0 j0 = some o0 ∧ (x.β s0 j0).1 = (y.β s j).1) ∨ x.w.heap.size ≤ (y.β s j).1
  os : y.w.os = x.w.os
  tape : y.w.tape = x.w.tape
  output : y.w.output = x.w.output
  size : x.w.heap.size ≤ y.w.heap.size
theorem cell_of_heap {w w' : World} {b off : Nat} (h : w'.heap[b]? = w.heap[b]?) : w'.cell? ⟨b, off, none⟩ = w.cell? ⟨b, off, none⟩ := by
  simp [World.cell?, h]
mutual
theorem FR.mono {w w' : World} {Z Z' : Nat → Prop} (h : ∀ k, Z k → Z' k ∧ w'.heap[k]? = w.heap[k]?) : ∀ {t v}, FR w Z t v → FR w' Z' t v
  | _, _, .int k n => .int k n
  | _, _, .bool b => .bool b
  | _, _, .str s => .str s
  | _, _, .nil => .nil
  | _, _, .sl0 A c => .sl0 A c
  | _, _, .sl n cap b off cs vs h0 h1 h2 h3 h4 => .sl n cap b off cs vs h0 h1 (fun i v hv => (cell_of_heap (h b h4).2).trans (h2 i v hv)) (FRL.mono h h3) (h b h4).1
  | _, _, .agg cs vs h1 => .agg cs vs (FRL.mono h h1)
theorem FRL.mono {w w' : World} {Z Z' : Nat → Prop} (h : ∀ k, Z k → Z' k ∧ w'.heap[k]? = w.heap[k]?) : ∀ {t v}, FRL w Z t v → FRL w' Z' t v
  | _, _, .nil => .nil
  | _, _, .cons c cs v vs h1 h2 => .cons c cs v vs (FR.mono h h1) (FRL.mono h h2)
end
mutual
theorem VR.mono {x y : Cx} (h : Ext x y) : ∀ {t v}, VR x t v → VR y t v
  | _, _, .int k n => .int k n
  | _, _, .bool b => .bool b
  | _, _, .str s => .str s
  | _, _, .nil => .nil
  | _, _, .fz n cs v h1 => .fz n cs v (FR.mono h.z h1)
  | _, _, .sl s j g off n cap a o h1 h2 h3 h4 => by
    obtain ⟨o', e1, e2, e3⟩ := h.o s j o h1
    refine .sl s j g off n cap a o' e1 (Nat.le_trans h2 e2) h3 (fun e => ?_)
    have e4 : o'.g = o.g := by omega
    obtain ⟨f1, f2, f3⟩ := e3 e4
    obtain ⟨p, c, e', h5, h6, h7, h8⟩ := h4 (by omega)
    obtain ⟨c', h9, h10⟩ := f3 c e' h6
    exact ⟨p, c', e', by rw [f2]; exact h5, by rw [f2]; exact h9, by rw [f1, h10]; exact h7, by rw [f2]; exact h8⟩
  | _, _, .ptr s j g off a o h1 h2 h3 => by
    obtain ⟨o', e1, e2, e3⟩ := h.o s j o h1
    exact .ptr s j g off a o' e1 (Nat.le_trans h2 e2) (fun e => by rw [(e3 (by omega)).2.1, (e3 (by omega)).1]; exact h3 (by omega))
  | _, _, .mp s j g b o h1 h2 h3 => by
    obtain ⟨o', e1, e2, e3⟩ := h.o s j o h1
    exact .mp s j g b o' e1 (Nat.le_trans h2 e2) (fun e => by rw [(e3 (by omega)).2.1, (e3 (by omega)).1]; exact h3 (by omega))
  | _, _, .fptr b off cs vs h1 h2 h3 => by
    by_cases hc : cs = []
    · subst hc
      cases h2
      exact .fptr b off [] [] (fun i v hv => by simp at hv) .nil (fun h => absurd rfl h)
    · exact .fptr b off cs vs (fun i v hv => (cell_of_heap (h.z b (h3 hc)).2).trans (h1 i v hv)) (FRL.mono h.z h2) (fun hc => (h.z b (h3 hc)).1)
  | _, _, .nilp => .nilp
  | _, _, .agg cs vs h1 => .agg cs vs (VRL.mono h h1)
  | _, _, .tup cs vs h1 => .tup cs vs (VRL.mono h h1)
  | _, _, .fn f cs vs h1 => .fn f cs vs (VRL.mono h h1)
  | _, _, .nilf => .nilf
  | _, _, .undef v => .undef v
theorem VRL.mono {x y : Cx} (h : Ext x y) : ∀ {t v}, VRL x t v → VRL y t v
  | _, _, .nil => .nil
  | _, _, .cons c cs v vs h1 h2 => .cons c cs v vs (VR.mono h h1) (VRL.mono h h2)
end
theorem ER.mono {x y : Cx} (h : Ext x y) : ∀ {cs es}, ER x cs es → ER y cs es
  | _, _, .nil => .nil
  | _, _, .cons k n a cs e es h1 h2 h3 h4 => .cons k n a cs e es h1 h2 (h3.mono h) (ER.mono h h4)
theorem Shows.keep {x y : Cx} (h : Ext x y) {w w' : World} {p : Nat × Nat} {o : Ob} (hw : w'.heap[p.1]? = w.heap[p.1]?) (hs : Shows x w p o) : Shows y w' p o := by
  rcases hs with ⟨h0, es, cl, h1, h2⟩ | ⟨h0, c, e, h1, h2, h3⟩
  · exact .inl ⟨h0, es, cl, hw.trans h1, h2.mono h⟩
  · exact .inr ⟨h0, c, e, hw.trans h1, h2, fun i a ha => by
      obtain ⟨g1, v, g2, g3⟩ := h3 i a ha
      exact ⟨g1, v, g2, g3.mono h⟩⟩
theorem Shows.lt {x : Cx} {w : World} {p : Nat × Nat} {o : Ob} (h : Shows x w p o) : p.1 < w.heap.size := by
  rcases h with ⟨_, es, cl, h1, _⟩ | ⟨_, c, e, h1, _⟩ <;> exact (Array.getElem?_eq_some_iff.1 h1).1
theorem Rel.cellsOf {x : Cx} (hR : Rel x) {s j : Nat} {o : Ob} (ho : x.H.ob s j = some o) (hz : o.z ≠ MZ) : ∃ c e, x.w.heap[(x.β s j).1]? = some (.cells c e (0, 0)) ∧ (x.β s j).2 + o.cells.length ≤ c.size ∧
    ∀ i a, o.cells[i]? = some a → a.isCell = true ∧ ∃ v, c[(x.β s j).2 + i]? = some v ∧ VR x a v := by
  rcases hR.obj s j o ho with ⟨h0, _⟩ | ⟨_, h⟩
  · exact absurd h0 hz
  · exact h
theorem Rel.noMap {x : Cx} (hR : Rel x) {s j : Nat} {o : Ob} (ho : x.H.ob s j = some o) {c : Array Value} {e : TypeId} {fr : Nat × Nat} (hc : x.w.heap[(x.β s j).1]? = some (.cells c e fr)) : o.z ≠ MZ := by
  rcases hR.obj s j o ho with ⟨_, es, cl, h1, _⟩ | ⟨h, _⟩
  · rw [hc] at h1; cases h1
  · exact h
theorem Ext.refl (x : Cx) : Ext x x := ⟨fun _ h => ⟨h, rfl⟩, fun _ _ o h => ⟨o, h, Nat.le_refl _, fun _ => ⟨rfl, rfl, fun c e hc => ⟨c, hc, rfl⟩⟩⟩, fun _ _ _ => rfl, fun s j o h => .inl ⟨s, j, o, h, rfl⟩, rfl, rfl, rfl, Nat.le_refl _⟩
theorem Ext.trans {x y z : Cx} (h : Ext x y) (k : Ext y z) : Ext x z where
  z := fun i hi => ⟨(k.z i (h.z i hi).1).1, (k.z i (h.z i hi).1).2.trans (h.z i hi).2⟩
  o := fun s j o ho => by
    obtain ⟨o', e1, e2, e3⟩ := h.o s j o ho
    obtain ⟨o2, f1, f2, f3⟩ := k.o s j o' e1
    refine ⟨o2, f1, Nat.le_trans e2 f2, fun e => ?_⟩
    obtain ⟨a1, a2, a3⟩ := e3 (by omega)
    obtain ⟨b1, b2, b3⟩ := f3 (by omega)
    refine ⟨b1.trans a1, b2.trans a2, fun c e hc => ?_⟩
    obtain ⟨c1, d1, d2⟩ := a3 c e hc
    obtain ⟨c2, d3, d4⟩ := b3 c1 e (by rw [a2]; exact d1)
    exact ⟨c2, by rw [a2] at d3; exact d3, d4.trans d2⟩
  keep := fun i hi hn => by
    refine (k.keep i (Nat.lt_of_lt_of_le hi h.size) (fun s j o ho => ?_)).trans (h.keep i hi hn)
    rcases h.blk s j o ho with ⟨s0, j0, o0, h0, h1⟩ | h0
    · rw [← h1]; exact hn s0 j0 o0 h0
    · omega
  blk := fun s j o ho => by
    rcases k.blk s j o ho with ⟨s0, j0, o0, h0, h1⟩ | h0
    · rcases h.blk s0 j0 o0 h0 with ⟨s1, j1, o1, h2, h3⟩ | h2
      · exact .inl ⟨s1, j1, o1, h2, h3.trans h1⟩
      · exact .inr (by omega)
    · exact .inr (Nat.le_trans h.size h0)
  os := k.os.trans h.os
  tape := k.tape.trans h.tape
  output := k.output.trans h.output
  size := Nat.le_trans h.size k.size
theorem VRL.length {x : Cx} : ∀ {t : List AV} {v : List Value}, VRL x t v → t.length = v.length
  | _, _, .nil => rfl
  | _, _, .cons c cs v vs h1 h2 => by simp [VRL.length h2]
theorem VRL.get {x : Cx} : ∀ {t : List AV} {v : List Value}, VRL x t v → ∀ {i : Nat} {a : AV}, t[i]? = some a → ∃ u : Value, v[i]? = some u ∧ VR x a u
  | _, _, .nil, i, a, h => by simp at h
  | _, _, .cons c cs v vs h1 h2, 0, a, h => by simp at h; subst h; exact ⟨v, rfl, h1⟩
  | _, _, .cons c cs v vs h1 h2, i + 1, a, h => by simpa using VRL.get h2 (by simpa using h)
theorem FRL.length {w : World} {Z : Nat → Prop} : ∀ {t : List FT} {v : List Value}, FRL w Z t v → t.length = v.length
  | _, _, .nil => rfl
  | _, _, .cons c cs v vs h1 h2 => by simp [FRL.length h2]
mutual
theorem FR.vr {x : Cx} : ∀ {t v}, FR x.w x.Z t v → VR x t.av v
  | _, _, .int k n => .int k n
  | _, _, .bool b => .bool b
  | _, _, .str s => .str s
  | _, _, .nil => .nil
  | _, _, .sl0 A c => .fz _ _ _ (.sl0 A c)
  | _, _, .sl n cap b off cs vs h0 h1 h2 h3 h4 => .fz _ _ _ (.sl n cap b off cs vs h0 h1 h2 h3 h4)
  | _, _, .agg cs vs h1 => .agg _ vs (FRL.vrl h1)
theorem FRL.vrl {x : Cx} : ∀ {t v}, FRL x.w x.Z t v → VRL x (FT.avs t) v
  | _, _, .nil => .nil
  | _, _, .cons c cs v vs h1 h2 => .cons _ _ v vs (FR.vr h1) (FRL.vrl h2)
end
end Go.Proofs.YtffiddkignmobaaDoorVe
end
section
/- VE, part C: one object is made, written or moved: the world behind it shows the heap behind it. -/
namespace Go.Proofs.YtffiddkignmobaaDoorVe
theorem Heap.ob_upd_same (H : Heap) (s j : Nat) (l : List Ob) : (H.upd s l).ob s j = l[j]? := by simp [Heap.ob, Heap.upd]
theorem Heap.ob_upd_ne (H : Heap) {s t : Nat} (j : Nat) (l : List Ob) (h : t ≠ s) : (H.upd s l).ob t j = H.ob t j := by simp [Heap.ob, Heap.upd, h]
def Bt.upd (β : Bt) (s j : Nat) (p : Nat × Nat) : Bt := fun t i => if t = s ∧ i = j then p else β t i
theorem Bt.upd_same (β : Bt) (s j : Nat) (p : Nat × Nat) : β.upd s j p s j = p := by simp [Bt.upd]
theorem Bt.upd_ne (β : Bt) {s j t i : Nat} (p : Nat × Nat) (h : ¬ (t = s ∧ i = j)) : β.upd s j p t i = β t i := by simp [Bt.upd, h]
/-- What may become of one object. -/
structure Chg (x : Cx) (w' : World) (H' : Heap) (s j : Nat) (p : Nat × Nat) (o' : Ob) : Prop where
  hH : ∀ t i, H'.ob t i = if t = s ∧ i = j then some o' else x.H.ob t i
  blk : Shows x w' p o'
  own : x.w.heap.size ≤ p.1 ∨ ∃ o, x.H.ob s j = some o ∧ p.1 = (x.β s j).1
  keep : ∀ k, k < x.w.heap.size → k ≠ p.1 → w'.heap[k]? = x.w.heap[k]?
  gen : ∀ o, x.H.ob s j = some o → o.g ≤ o'.g ∧ (o'.g = o.g → o'.z = o.z ∧ p = x.β s j ∧ ∀ c e, x.w.heap[p.1]? = some (.cells c e (0, 0)) → ∃ c', w'.heap[p.1]? = some (.cells c' e (0, 0)) ∧ c'.size = c.size)
  os : w'.os = x.w.os
  tape : w'.tape = x.w.tape
  output : w'.output = x.w.output
  size : x.w.heap.size ≤ w'.heap.size
section
variable {x : Cx} {w' : World} {H' : Heap} {s j : Nat} {p : Nat × Nat} {o' : Ob}
theorem lt_of_some {w : World} {k : Nat} {o : Obj} (h : w.heap[k]? = some o) : k < w.heap.size := (Array.getElem?_eq_some_iff.1 h).1
theorem Chg.other (h : Chg x w' H' s j p o') (hR : Rel x) {t i : Nat} (hne : ¬ (t = s ∧ i = j)) {o : Ob} (ho : x.H.ob t i = some o) : (x.β t i).1 ≠ p.1 := by
  intro e
  have hb := (hR.obj t i o ho).lt
  rcases h.own with h1 | ⟨o1, h1, h2⟩
  · omega
  · exact hne (hR.inj t i o s j o1 ho h1 (e.trans h2))
theorem Chg.notZ (h : Chg x w' H' s j p o') (hR : Rel x) : ¬ x.Z p.1 := by
  intro hz
  rcases h.own with h1 | ⟨o1, h1, h2⟩
  · have := hR.zlt _ hz; omega
  · rw [h2] at hz; exact hR.sep s j o1 h1 hz
theorem Chg.ext (h : Chg x w' H' s j p o') (hR : Rel x) : Ext x ⟨w', x.Z, x.β.upd s j p, H'⟩ where
  z := fun k hk => ⟨hk, h.keep k (hR.zlt k hk) (fun e => h.notZ hR (e ▸ hk))⟩
  o := fun t i o ho => by
    by_cases hc : t = s ∧ i = j
    · obtain ⟨rfl, rfl⟩ := hc
      refine ⟨o', by simp [h.hH], (h.gen o ho).1, fun e => ?_⟩
      obtain ⟨h1, h2, h3⟩ := (h.gen o ho).2 e
      refine ⟨h1, by simp [Bt.upd_same, h2], fun c e' hb => ?_⟩
      rw [← h2] at hb ⊢
      exact h3 c e' hb
    · refine ⟨o, by simp [h.hH, hc, ho], Nat.le_refl _, fun _ => ⟨rfl, by simp [Bt.upd_ne _ _ hc], fun c e hb => ⟨c, ?_, rfl⟩⟩⟩
      exact (h.keep _ (lt_of_some hb) (h.other hR hc ho)).trans hb
  keep := fun k hk hn => by
    rcases h.own with h1 | ⟨o1, h1, h2⟩
    · exact h.keep k hk (by omega)
    · exact h.keep k hk (fun e => hn s j o1 h1 (h2.symm.trans e.symm))
  blk := fun t i o ho => by
    by_cases hc : t = s ∧ i = j
    · obtain ⟨rfl, rfl⟩ := hc
      simp only [Bt.upd_same]
      rcases h.own with h1 | ⟨o1, h1, h2⟩
      · exact .inr h1
      · exact .inl ⟨_, _, o1, h1, h2.symm⟩
    · simp only [Bt.upd_ne _ _ hc]
      refine .inl ⟨t, i, o, ?_, rfl⟩
      simpa [h.hH, hc] using ho
  os := h.os
  tape := h.tape
  output := h.output
  size := h.size
theorem Chg.rel (h : Chg x w' H' s j p o') (hR : Rel x) : Rel ⟨w', x.Z, x.β.upd s j p, H'⟩ where
  obj := fun t i o ho => by
    have hE := h.ext hR
    by_cases hc : t = s ∧ i = j
    · obtain ⟨rfl, rfl⟩ := hc
      have e : o' = o := by simpa [h.hH] using ho
      subst e
      simp only [Bt.upd_same]
      exact h.blk.keep hE rfl
    · have ho' : x.H.ob t i = some o := by simpa [h.hH, hc] using ho
      simp only [Bt.upd_ne _ _ hc]
      exact (hR.obj t i o ho').keep hE (h.keep _ (hR.obj t i o ho').lt (h.other hR hc ho'))
  inj := fun t i o t' i' o2 ho ho2 e => by
    by_cases hc : t = s ∧ i = j
    · by_cases hc2 : t' = s ∧ i' = j
      · exact ⟨hc.1.trans hc2.1.symm, hc.2.trans hc2.2.symm⟩
      · exfalso
        obtain ⟨rfl, rfl⟩ := hc
        simp only [Bt.upd_same, Bt.upd_ne _ _ hc2] at e
        exact h.other hR hc2 (by simpa [h.hH, hc2] using ho2) e.symm
    · by_cases hc2 : t' = s ∧ i' = j
      · exfalso
        obtain ⟨rfl, rfl⟩ := hc2
        simp only [Bt.upd_same, Bt.upd_ne _ _ hc] at e
        exact h.other hR hc (by simpa [h.hH, hc] using ho) e
      · simp only [Bt.upd_ne _ _ hc, Bt.upd_ne _ _ hc2] at e
        exact hR.inj t i o t' i' o2 (by simpa [h.hH, hc] using ho) (by simpa [h.hH, hc2] using ho2) e
  sep := fun t i o ho => by
    by_cases hc : t = s ∧ i = j
    · obtain ⟨rfl, rfl⟩ := hc
      simp only [Bt.upd_same]
      exact h.notZ hR
    · simp only [Bt.upd_ne _ _ hc]
      exact hR.sep t i o (by simpa [h.hH, hc] using ho)
  zlt := fun k hk => Nat.lt_of_lt_of_le (hR.zlt k hk) h.size
  side := side_stab hR.side fun k hk => ((h.ext hR).z k (hR.sideZ k hk)).2
  sideZ := hR.sideZ
end
/-- The world's count of draws moves: nothing else. -/
theorem Ext.world {x : Cx} {w' : World} (h : w'.heap = x.w.heap) (ho : w'.os = x.w.os) (ht : w'.tape = x.w.tape) (hp : w'.output = x.w.output) : Ext x { x with w := w' } where
  z := fun k hk => ⟨hk, by rw [h]⟩
  o := fun s j o ho => ⟨o, ho, Nat.le_refl _, fun _ => ⟨rfl, rfl, fun c e hc => ⟨c, by rw [h]; exact hc, rfl⟩⟩⟩
  keep := fun k _ _ => by rw [h]
  blk := fun s j o ho => .inl ⟨s, j, o, ho, rfl⟩
  os := ho
  tape := ht
  output := hp
  size := by rw [h]; exact Nat.le_refl _
theorem Rel.world {x : Cx} {w' : World} (hR : Rel x) (h : w'.heap = x.w.heap) (ho : w'.os = x.w.os) (ht : w'.tape = x.w.tape) (hp : w'.output = x.w.output) : Rel { x with w := w' } where
  obj := fun s j o hs => by
    exact (hR.obj s j o hs).keep (Ext.world h ho ht hp) (by show w'.heap[_]? = _; rw [h])
  inj := hR.inj
  sep := hR.sep
  zlt := fun k hk => by rw [h]; exact hR.zlt k hk
  side := side_stab hR.side fun k _ => by show w'.heap[k]? = _; rw [h]
  sideZ := hR.sideZ
/-- A new object in an empty slot. -/
theorem newObj_chg {x : Cx} (s : Nat) (hs : x.H s = []) (o : Ob) (hz : o.z ≠ MZ) (c : Array Value) (e : TypeId) (hc : ∀ (i : Nat) (a : AV), o.cells[i]? = some a → a.isCell = true ∧ ∃ v : Value, c[i]? = some v ∧ VR x a v) (hl : o.cells.length ≤ c.size) (w1 : World) (h1 : w1.heap = x.w.heap) (ho : w1.os = x.w.os) (ht : w1.tape = x.w.tape) (hp : w1.output = x.w.output) :
    Chg x { w1 with heap := w1.heap.push (.cells c e (0, 0)) } (x.H.upd s [o]) s 0 (x.w.heap.size, 0) o where
  hH := fun t i => by
    by_cases hts : t = s
    · subst hts
      rw [Heap.ob_upd_same]
      cases i with
      | zero => simp
      | succ i => simp [Heap.ob, hs]
    · rw [Heap.ob_upd_ne _ _ _ hts]; simp [hts]
  blk := .inr ⟨hz, c, e, by simp [h1], by simpa using hl, fun i a ha => by simpa using hc i a ha⟩
  own := .inl (Nat.le_refl _)
  keep := fun k hk _ => by
    simp only [h1]
    rw [Array.getElem?_push]
    simp [Nat.ne_of_lt hk]
  gen := fun o2 h2 => by simp [Heap.ob, hs] at h2
  os := ho
  tape := ht
  output := hp
  size := by simp [h1]
end Go.Proofs.YtffiddkignmobaaDoorVe
end
section
/- VE, part D: each operation does in the world what it does in the abstract heap. -/
namespace Go.Proofs.YtffiddkignmobaaDoorVe
def Done (P : Program) (x : Cx) (m : Sem Next) (v : AV) (H' : Heap) : Prop :=
  ∃ n u y, m.run P x.w = .ok n y.w ∧ (n = .value u ∨ (n = .skip ∧ u = undef)) ∧ y.H = H' ∧ Rel y ∧ Ext x y ∧ VR y v u
theorem Done.same {P : Program} {x : Cx} {m : Sem Next} {v : AV} {u : Value} (hR : Rel x) (h : m.run P x.w = .ok (.value u) x.w) (hv : VR x v u) : Done P x m v x.H :=
  ⟨_, u, x, h, .inl rfl, rfl, hR, Ext.refl x, hv⟩
theorem run_bind {α β : Type} (P : Program) (m : Sem α) (f : α → Sem β) (w : World) : (m >>= f).run P w = match m.run P w with
    | .ok a w' => (f a).run P w'
    | .halt h w' => .halt h w' := by
  show (Sem.bind m f).run P w = _
  induction m generalizing w with
  | pure a => rfl
  | load md a k ih =>
    simp only [Sem.bind, Sem.run]
    split
    · exact ih _ _
    · split
      · exact ih _ _
      · rfl
  | store md a v k ih =>
    cases v <;> simp only [Sem.bind, Sem.run] <;>
      first
      | rfl
      | (split
         · split
           · rfl
           · exact ih _
         · split
           · exact ih _
           · rfl)
  | new o k ih => simp only [Sem.bind, Sem.run]; exact ih _ _
  | shape r k ih => simp only [Sem.bind, Sem.run]; exact ih _ _
  | freeze a n k ih => simp only [Sem.bind, Sem.run]; exact ih _
  | frozen a k ih => simp only [Sem.bind, Sem.run]; exact ih _ _
  | getObj r k ih =>
    simp only [Sem.bind, Sem.run]
    split
    · rfl
    · exact ih _ _
    · rfl
  | setObj r o k ih =>
    simp only [Sem.bind, Sem.run]
    split
    · rfl
    · exact ih _
    · rfl
  | choose q k ih =>
    simp only [Sem.bind, Sem.run]
    split
    · exact ih _ _
    · exact ih _ _
  | sys c k ih => simp only [Sem.bind, Sem.run]; exact ih _ _
  | program k ih => simp only [Sem.bind, Sem.run]; exact ih _ _
  | mark m k ih => simp only [Sem.bind, Sem.run]; exact ih _
  | halt h => rfl
theorem run_pure {α : Type} (P : Program) (a : α) (w : World) : (pure a : Sem α).run P w = .ok a w := rfl
theorem run_underlying {P : Program} {t : TypeId} {d : TypeDesc} (h : P.underlying t = some d) (w : World) : (underlying t).run P w = .ok d w := by
  simp [underlying, run_bind, program, Sem.run, h, run_pure]
theorem run_typeInfo {P : Program} {t : TypeId} {i : TypeInfo} (h : P.info? t = some i) (w : World) : (typeInfo t).run P w = .ok i w := by
  simp [typeInfo, run_bind, program, Sem.run, h, run_pure]
theorem run_sizeOf {P : Program} {t : TypeId} {i : TypeInfo} (h : P.info? t = some i) (w : World) : (sizeOf t).run P w = .ok i.size w := by
  simp only [sizeOf, run_bind, run_typeInfo h, run_pure]
theorem run_zeroValue {P : Program} {t : TypeId} {i : TypeInfo} {v : Value} (h : P.info? t = some i) (hz : i.zero = some v) (w : World) : (zeroValue t).run P w = .ok v w := by
  simp [zeroValue, run_bind, run_typeInfo h, hz, run_pure]
theorem run_isAgg {P : Program} {t : TypeId} {d : TypeDesc} (h : P.underlying t = some d) (w : World) : (isAgg t).run P w = .ok (tdOf P d).isAgg w := by
  simp only [isAgg, run_bind, run_underlying h]
  cases d <;> rfl
theorem MZ_ne {n : Nat} (h : n < 4294967296) : n ≠ MZ := by
  unfold MZ; omega
theorem ti_spec' {P : Program} {t : TypeId} {T : TI} (h : ti P t = some T) : ∃ d i z, P.underlying t = some d ∧ P.info? t = some i ∧ i.zero = some z ∧ T = ⟨tdOf P d, i.size, i.bytes, (ofVal z).cells⟩ ∧ okD P d = true ∧ i.size ≠ MZ ∧ ((tdOf P d).isAgg = true ∨ oneC z = true) := by
  unfold ti at h
  split at h
  · split at h
    · split at h
      · rename_i d i hd hi _ z hz hok
        simp only [Bool.and_eq_true, Bool.or_eq_true, Nat.blt_eq] at hok
        exact ⟨_, _, _, hd, hi, hz, (Option.some.inj h).symm, hok.1, MZ_ne hok.2.1, hok.2.2⟩
      · cases h
    · cases h
  · cases h
theorem ti_spec {P : Program} {t : TypeId} {T : TI} (h : ti P t = some T) : ∃ d i z, P.underlying t = some d ∧ P.info? t = some i ∧ i.zero = some z ∧ T = ⟨tdOf P d, i.size, i.bytes, (ofVal z).cells⟩ := by
  obtain ⟨d, i, z, h1, h2, h3, h4, _⟩ := ti_spec' h
  exact ⟨d, i, z, h1, h2, h3, h4⟩
theorem ti_size {P : Program} {t : TypeId} {T : TI} (h : ti P t = some T) : T.size ≠ MZ := by
  obtain ⟨d, i, z, _, _, _, h4, _, h5, _⟩ := ti_spec' h
  subst h4; exact h5
mutual
theorem ofVal_vr (x : Cx) : ∀ v, VR x (ofVal v) v
  | .int k n => by unfold ofVal; exact .int k n
  | .bool b => by unfold ofVal; exact .bool b
  | .string s => by unfold ofVal; exact .str s
  | .slice none 0 0 => by unfold ofVal; exact .nil
  | .slice none 0 (c + 1) => by simp only [ofVal]; exact .undef _
  | .slice none (n + 1) c => by simp only [ofVal]; exact .undef _
  | .slice (some a) n c => by simp only [ofVal]; exact .undef _
  | .pointer none => by unfold ofVal; exact .nilp
  | .pointer (some a) => by simp only [ofVal]; exact .undef _
  | .nilFunc => by unfold ofVal; exact .nilf
  | .agg ⟨cs⟩ => by
    unfold ofVal
    exact .agg _ cs (ofVals_vr x cs)
  | .float .. => by simp only [ofVal]; exact .undef _
  | .complex .. => by simp only [ofVal]; exact .undef _
  | .map .. => by simp only [ofVal]; exact .undef _
  | .chan .. => by simp only [ofVal]; exact .undef _
  | .func .. => by simp only [ofVal]; exact .undef _
  | .iface .. => by simp only [ofVal]; exact .undef _
  | .nilIface => by simp only [ofVal]; exact .undef _
  | .tuple .. => by simp only [ofVal]; exact .undef _
theorem ofVals_vr (x : Cx) : ∀ v, VRL x (ofVals v) v
  | [] => .nil
  | c :: cs => .cons _ _ c cs (ofVal_vr x c) (ofVals_vr x cs)
end
/-- A cell's value has one cell. -/
theorem VR.isCell {x : Cx} {a : AV} {v : Value} (h : VR x a v) (hc : a.isCell = true) : v.cells = #[v] ∧ oneC v = true := by
  cases h <;> simp_all [AV.isCell, Value.cells, oneC]
  case fz => rename_i h; cases h <;> simp
theorem VR.cells {x : Cx} {a : AV} {v : Value} (h : VR x a v) (ha : a ≠ .undef) : VRL x a.cells v.cells.toList := by
  cases h <;> simp only [AV.cells, Value.cells] <;> first
    | exact .cons _ _ _ _ (by constructor <;> assumption) .nil
    | assumption
    | (exact absurd rfl ha)
    | skip
  case fz => rename_i h; cases h <;> exact .cons _ _ _ _ (.fz _ _ _ (by constructor <;> assumption)) .nil
theorem run_load {P : Program} {w : World} {a : Addr} {v : Value} (h : w.cell? a = some v) : (load a).run P w = .ok v w := by
  simp [load, Sem.run, h]
theorem run_loadCellsFrom {P : Program} {w : World} {b off : Nat} : ∀ (vs : List Value) (i : Nat) (acc : Array Value), (∀ m v, vs[m]? = some v → w.cell? ⟨b, off + (i + m), none⟩ = some v) →
    (loadCellsFrom ⟨b, off, none⟩ i vs.length acc).run P w = .ok (acc ++ vs.toArray) w := by
  intro vs
  induction vs with
  | nil => intro i acc _; simp [loadCellsFrom, run_pure]
  | cons v vs ih =>
    intro i acc h
    have h0 : w.cell? ((⟨b, off, none⟩ : Addr).add i) = some v := by
      have := h 0 v rfl
      unfold Addr.add
      by_cases e : i = 0
      · subst e; simpa using this
      · simp only [e, if_false]; simpa using this
    simp only [loadCellsFrom, List.length_cons, run_bind, run_load h0]
    rw [ih (i + 1) (acc.push v) (fun m u hu => by
      have := h (m + 1) u (by simpa using hu)
      rwa [show i + (m + 1) = i + 1 + m by omega] at this)]
    simp
theorem run_loadCells {P : Program} {w : World} {b off : Nat} (vs : List Value) (h : ∀ m v, vs[m]? = some v → w.cell? ⟨b, off + m, none⟩ = some v) :
    (loadCells ⟨b, off, none⟩ vs.length).run P w = .ok vs.toArray w := by
  have := run_loadCellsFrom (P := P) vs 0 #[] (by simpa using h)
  simpa [loadCells] using this
theorem VRL.drop {x : Cx} : ∀ (n : Nat) {t : List AV} {v : List Value}, VRL x t v → VRL x (t.drop n) (v.drop n)
  | 0, _, _, h => by simpa using h
  | n + 1, _, _, .nil => by simpa using VRL.nil
  | n + 1, _, _, .cons _ _ _ _ _ h => by simpa using VRL.drop n h
theorem VRL.take {x : Cx} : ∀ (n : Nat) {t : List AV} {v : List Value}, VRL x t v → VRL x (t.take n) (v.take n)
  | 0, _, _, h => by simpa using VRL.nil
  | n + 1, _, _, .nil => by simpa using VRL.nil
  | n + 1, _, _, .cons c _ v _ h0 h => by simpa using VRL.cons c _ v _ h0 (VRL.take n h)
theorem VRL.append {x : Cx} : ∀ {t u : List AV} {v w : List Value}, VRL x t v → VRL x u w → VRL x (t ++ u) (v ++ w)
  | _, _, _, _, .nil, h => by simpa using h
  | _, _, _, _, .cons c _ v _ h0 h1, h => by simpa using VRL.cons c _ v _ h0 (VRL.append h1 h)
/-- Out of what is told of each cell. -/
theorem VRL.of_get {x : Cx} : ∀ (t : List AV) (v : List Value), t.length = v.length → (∀ (i : Nat) (a : AV), t[i]? = some a → ∃ u : Value, v[i]? = some u ∧ VR x a u) → VRL x t v
  | [], [], _, _ => .nil
  | [], _ :: _, h, _ => by simp at h
  | _ :: _, [], h, _ => by simp at h
  | c :: cs, v :: vs, h, hg => by
    obtain ⟨u, h1, h2⟩ := hg 0 c rfl
    obtain rfl : v = u := by simpa using h1
    exact .cons c cs v vs h2 (VRL.of_get cs vs (by simpa using h) (fun i a ha => by simpa using hg (i + 1) a (by simpa using ha)))
/-- The cells of an own object, in the world. -/
theorem Rel.cells {x : Cx} (hR : Rel x) {s j : Nat} {o : Ob} (ho : x.H.ob s j = some o) (hz : o.z ≠ MZ) (off n : Nat) (hn : off + n ≤ o.cells.length) :
    ∃ vs : List Value, vs.length = n ∧ VRL x ((o.cells.drop off).take n) vs ∧ (∀ m v, vs[m]? = some v → x.w.cell? ⟨(x.β s j).1, (x.β s j).2 + off + m, none⟩ = some v) := by
  obtain ⟨c, e, h1, h2, h3⟩ := hR.cellsOf ho hz
  refine ⟨(c.toList.drop ((x.β s j).2 + off)).take n, by simp; omega, VRL.of_get _ _ (by simp; omega) (fun i a ha => ?_), fun m v hv => ?_⟩
  · rw [List.getElem?_take] at ha
    split at ha
    · rw [List.getElem?_drop] at ha
      obtain ⟨_, v, g1, g2⟩ := h3 _ a ha
      refine ⟨v, ?_, g2⟩
      rw [List.getElem?_take, if_pos (by assumption), List.getElem?_drop, Array.getElem?_toList, ← g1]
      congr 1; omega
    · cases ha
  · rw [List.getElem?_take] at hv
    split at hv
    · rw [List.getElem?_drop, Array.getElem?_toList] at hv
      simp only [World.cell?, h1, Option.isSome_none, Bool.false_eq_true, if_false]
      rw [← hv]
    · cases hv
theorem FRL.take {w : World} {Z : Nat → Prop} : ∀ (n : Nat) {t : List FT} {v : List Value}, FRL w Z t v → FRL w Z (t.take n) (v.take n)
  | 0, _, _, h => by simpa using FRL.nil
  | n + 1, _, _, .nil => by simpa using FRL.nil
  | n + 1, _, _, .cons c _ v _ h0 h => by simpa using FRL.cons c _ v _ h0 (FRL.take n h)
theorem FRL.drop {w : World} {Z : Nat → Prop} : ∀ (n : Nat) {t : List FT} {v : List Value}, FRL w Z t v → FRL w Z (t.drop n) (v.drop n)
  | 0, _, _, h => by simpa using h
  | n + 1, _, _, .nil => by simpa using FRL.nil
  | n + 1, _, _, .cons _ _ _ _ _ h => by simpa using FRL.drop n h
theorem loadA_spec {x : Cx} (hR : Rel x) {n : Nat} {a : AV} {cs : List AV} {u : Value} (h : loadA x.H n a = some cs) (hv : VR x a u) :
    ∃ b off, ∃ vs : List Value, u = .pointer (some ⟨b, off, none⟩) ∧ vs.length = n ∧ VRL x cs vs ∧ (∀ m v, vs[m]? = some v → x.w.cell? ⟨b, off + m, none⟩ = some v) := by
  cases hv <;> simp only [loadA] at h <;> try cases h
  case ptr s j g off a o h1 h2 h3 =>
    rw [h1] at h
    simp only at h
    split at h
    · rename_i hc
      obtain ⟨rfl⟩ := h
      obtain ⟨vs, e1, e2, e3⟩ := hR.cells h1 (h3 hc.1).1 off n hc.2
      exact ⟨_, _, vs, by rw [(h3 hc.1).2], e1, e2, e3⟩
    · cases h
  case fptr b off cs' vs h1 h2 h3 =>
    split at h
    · rename_i hc
      obtain ⟨rfl⟩ := h
      have hl := FRL.length h2
      refine ⟨b, off, vs.take n, rfl, by simp; omega, FRL.vrl (FRL.take n h2), fun m v hm => ?_⟩
      rw [List.getElem?_take] at hm
      split at hm
      · exact h1 m v hm
      · cases hm
    · cases h
theorem op_load_agg {P : Program} {x : Cx} (hR : Rel x) {t : TypeId} {a : AV} {u : Value} (hv : VR x a u) {T : TI} (hT : ti P t = some T) {cs : List AV} (h : loadA x.H T.size a = some cs) (hg : T.d.isAgg = true) :
    ∃ r : Value, (Instr.loadAt t u).run P x.w = .ok r x.w ∧ VR x (.agg cs) r := by
  obtain ⟨d, i, z, hd, hi, hz, rfl⟩ := ti_spec hT
  obtain ⟨b, off, vs, rfl, h1, h2, h3⟩ := loadA_spec hR h hv
  replace hg : (tdOf P d).isAgg = true := hg
  replace h1 : vs.length = i.size := h1
  simp only [Instr.loadAt, Instr.sureAddr, run_bind, run_pure, loadVar, run_isAgg hd, hg, if_true, run_sizeOf hi]
  rw [← h1, run_loadCells vs h3]
  exact ⟨_, rfl, .agg cs vs h2⟩
theorem op_load_one {P : Program} {x : Cx} (hR : Rel x) {t : TypeId} {a c : AV} {u : Value} (hv : VR x a u) {T : TI} (hT : ti P t = some T) (h : loadA x.H T.size a = some [c]) (hg : ¬ T.d.isAgg = true) :
    ∃ r : Value, (Instr.loadAt t u).run P x.w = .ok r x.w ∧ VR x c r := by
  obtain ⟨d, i, z, hd, hi, hz, rfl⟩ := ti_spec hT
  obtain ⟨b, off, vs, rfl, h1, h2, h3⟩ := loadA_spec hR h hv
  replace hg : ¬ (tdOf P d).isAgg = true := hg
  simp only [Instr.loadAt, Instr.sureAddr, run_bind, run_pure, loadVar, run_isAgg hd, hg, if_false, Bool.false_eq_true]
  cases h2 with
  | cons _ _ v _ hv' hn =>
    cases hn
    rw [run_load (by simpa using h3 0 v rfl)]
    exact ⟨v, rfl, hv'⟩
theorem run_store {P : Program} {w : World} {a : Addr} {v u : Value} (ho : oneC v = true) (hc : w.cell? a = some u) (hf : w.frozen? a = false) : (store a v).run P w = .ok () (w.setCell a v) := by
  cases v <;> simp_all [store, Sem.run, oneC]
/-- Some cells of a block are written, one behind the other. -/
def World.setCells (w : World) (b off : Nat) : List Value → World
  | [] => w
  | v :: vs => World.setCells (w.setCell ⟨b, off, none⟩ v) b (off + 1) vs
theorem add_off (b off i : Nat) : (⟨b, off, none⟩ : Addr).add i = ⟨b, off + i, none⟩ := by
  unfold Addr.add
  by_cases h : i = 0
  · subst h; rfl
  · simp [h]
theorem heap_setCell_row {w : World} {b off : Nat} {c : Array Value} {e : TypeId} (h : w.heap[b]? = some (.cells c e (0, 0))) (v : Value) :
    (w.setCell ⟨b, off, none⟩ v).heap[b]? = some (.cells (c.setIfInBounds off v) e (0, 0)) := by
  simp [World.setCell, Array.getElem?_modify, h]
theorem heap_setCell_ne {w : World} {b off k : Nat} (v : Value) (h : k ≠ b) : (w.setCell ⟨b, off, none⟩ v).heap[k]? = w.heap[k]? := by
  simp [World.setCell, Array.getElem?_modify, Ne.symm h]
theorem setCells_spec : ∀ (vs : List Value) {w : World} {b off : Nat} {c : Array Value} {e : TypeId}, w.heap[b]? = some (.cells c e (0, 0)) →
    ∃ c' : Array Value, (World.setCells w b off vs).heap[b]? = some (.cells c' e (0, 0)) ∧ c'.size = c.size ∧ (∀ k, k ≠ b → (World.setCells w b off vs).heap[k]? = w.heap[k]?) ∧
      (∀ m, m < c.size → c'[m]? = if off ≤ m ∧ m < off + vs.length then vs[m - off]? else c[m]?) ∧ (World.setCells w b off vs).heap.size = w.heap.size ∧ (World.setCells w b off vs).os = w.os ∧ (World.setCells w b off vs).tape = w.tape ∧ (World.setCells w b off vs).output = w.output := by
  intro vs
  induction vs with
  | nil =>
    intro w b off c e h
    refine ⟨c, h, rfl, fun _ _ => rfl, fun m _ => ?_, rfl, rfl, rfl, rfl⟩
    rw [if_neg (by simp)]
  | cons v vs ih =>
    intro w b off c e h
    obtain ⟨c', h1, h2, h3, h4, h5, h6, h7, h8⟩ := ih (w := w.setCell ⟨b, off, none⟩ v) (off := off + 1) (heap_setCell_row h v)
    refine ⟨c', h1, by simpa using h2, fun k hk => (h3 k hk).trans (heap_setCell_ne v hk), fun m hm => ?_, by rw [World.setCells, h5]; simp [World.setCell], by rw [World.setCells, h6]; rfl, by rw [World.setCells, h7]; rfl, by rw [World.setCells, h8]; rfl⟩
    rw [h4 m (by simpa using hm)]
    by_cases e1 : m = off
    · subst e1
      rw [if_neg (by omega), if_pos (by simp)]
      simp [hm]
    · by_cases e2 : off + 1 ≤ m ∧ m < off + 1 + vs.length
      · rw [if_pos e2, if_pos (by simp; omega)]
        rw [show m - off = (m - (off + 1)) + 1 by omega]
        rfl
      · rw [if_neg e2, if_neg (by simp; omega)]
        simp [Array.getElem?_setIfInBounds_ne (Ne.symm e1)]
theorem run_storeCells {P : Program} : ∀ (vs : List Value) (i : Nat) {w : World} {b off : Nat} {c : Array Value} {e : TypeId}, w.heap[b]? = some (.cells c e (0, 0)) → off + i + vs.length ≤ c.size → (∀ v ∈ vs, oneC v = true) →
    (storeCells ⟨b, off, none⟩ vs i).run P w = .ok () (World.setCells w b (off + i) vs) := by
  intro vs
  induction vs with
  | nil => intro i w b off c e _ _ _; simp [storeCells, run_pure, World.setCells]
  | cons v vs ih =>
    intro i w b off c e h hl ho
    have hlt : off + i < c.size := by simp at hl; omega
    have hc : w.cell? ⟨b, off + i, none⟩ = some c[off + i] := by simp [World.cell?, h, hlt]
    have hf : w.frozen? ⟨b, off + i, none⟩ = false := by simp [World.frozen?, h]
    simp only [storeCells, run_bind, add_off]
    rw [run_store (ho v (by simp)) hc hf]
    simp only
    rw [ih (i + 1) (heap_setCell_row h v) (by simp at hl ⊢; omega) (fun u hu => ho u (by simp [hu]))]
    rw [World.setCells, Nat.add_assoc]
theorem Heap.ob_put {H : Heap} {s j : Nat} {o : Ob} (ho : H.ob s j = some o) (o' : Ob) (t i : Nat) : (H.put s j o').ob t i = if t = s ∧ i = j then some o' else H.ob t i := by
  unfold Heap.put
  by_cases hts : t = s
  · subst hts
    rw [Heap.ob_upd_same, List.getElem?_set]
    by_cases hij : j = i
    · subst hij
      have hl : j < (H t).length := (List.getElem?_eq_some_iff.1 ho).1
      simp [hl]
    · simp [hij, Ne.symm hij, Heap.ob]
  · rw [Heap.ob_upd_ne _ _ _ hts]; simp [hts]
theorem VRL.isCell {x : Cx} : ∀ {t : List AV} {v : List Value}, VRL x t v → t.all AV.isCell = true → ∀ u ∈ v, oneC u = true
  | _, _, .nil, _, u, hu => by simp at hu
  | _, _, .cons c cs v vs h1 h2, h, u, hu => by
    simp only [List.all_cons, Bool.and_eq_true] at h
    rcases List.mem_cons.1 hu with rfl | hu
    · exact (h1.isCell h.1).2
    · exact VRL.isCell h2 h.2 u hu
theorem AV.cells_ne_undef {a : AV} (h : a.cells.all AV.isCell = true) : a ≠ .undef := by
  rintro rfl
  simp [AV.cells, AV.isCell] at h
/-- Cells of an own object are written. -/
theorem chg_write {x : Cx} (hR : Rel x) {s j : Nat} {o : Ob} (ho : x.H.ob s j = some o) (hz : o.z ≠ MZ) (off : Nat) (as : List AV) (vs : List Value) (hv : VRL x as vs) (hc : as.all AV.isCell = true) (hl : off + as.length ≤ o.cells.length) :
    Chg x (World.setCells x.w (x.β s j).1 ((x.β s j).2 + off) vs) (x.H.put s j ⟨o.g, o.z, o.cells.take off ++ as ++ o.cells.drop (off + as.length)⟩) s j (x.β s j) ⟨o.g, o.z, o.cells.take off ++ as ++ o.cells.drop (off + as.length)⟩ := by
  obtain ⟨c, e, h1, h2, h3⟩ := hR.cellsOf ho hz
  obtain ⟨c', g1, g2, g3, g4, g5, g6, g7, g8⟩ := setCells_spec vs (off := (x.β s j).2 + off) h1
  have hlen := hv.length
  refine ⟨fun t i => Heap.ob_put ho _ t i, .inr ⟨hz, c', e, g1, by simp; omega, fun i a ha => ?_⟩, .inr ⟨o, ho, rfl⟩, fun k _ hk => g3 k hk, fun o2 h4 => ?_, g6, g7, g8, by rw [g5]; exact Nat.le_refl _⟩
  · have hi : i < o.cells.length := by
      have := (List.getElem?_eq_some_iff.1 ha).1
      simp at this; omega
    rw [g4 _ (by omega)]
    by_cases e1 : off ≤ i ∧ i < off + as.length
    · rw [if_pos (by omega)]
      have ha' : as[i - off]? = some a := by
        rw [List.append_assoc, List.getElem?_append_right (by simp; omega), List.getElem?_append_left (by simp; omega)] at ha
        rw [← ha]; congr 1; simp; omega
      obtain ⟨u, k1, k2⟩ := hv.get ha'
      refine ⟨?_, u, ?_, k2⟩
      · exact List.all_eq_true.1 hc a (List.mem_of_getElem? ha')
      · rw [← k1]; congr 1; omega
    · rw [if_neg (by omega)]
      have ha' : o.cells[i]? = some a := by
        rw [List.append_assoc] at ha
        by_cases e2 : i < off
        · rw [List.getElem?_append_left (by simp; omega), List.getElem?_take, if_pos e2] at ha
          exact ha
        · rw [List.getElem?_append_right (by simp; omega), List.getElem?_append_right (by simp; omega), List.getElem?_drop] at ha
          rw [← ha]; congr 1; simp; omega
      exact h3 i a ha'
  · rw [ho] at h4
    obtain rfl := Option.some.inj h4
    exact ⟨Nat.le_refl _, fun _ => ⟨rfl, rfl, fun c2 e2 hb => by
      rw [h1] at hb
      injection hb with hb
      injection hb with hb1 hb2
      subst hb1 hb2
      exact ⟨c', g1, g2⟩⟩⟩
/-- A change of one object is what the operation does. -/
theorem Done.chg {P : Program} {x : Cx} {m : Sem Next} {v : AV} {u : Value} {w' : World} {H' : Heap} {s j : Nat} {p : Nat × Nat} {o' : Ob} (hR : Rel x) (hc : Chg x w' H' s j p o') {n : Next} (hn : n = .value u ∨ (n = .skip ∧ u = undef)) (h : m.run P x.w = .ok n w') (hv : VR ⟨w', x.Z, x.β.upd s j p, H'⟩ v u) : Done P x m v H' :=
  ⟨n, u, ⟨w', x.Z, x.β.upd s j p, H'⟩, h, hn, rfl, hc.rel hR, hc.ext hR, hv⟩
theorem op_store {P : Program} {x : Cx} (hR : Rel x) {t : TypeId} {T : TI} (hT : ti P t = some T) {s j g off : Nat} {u v : Value} {b : AV} (hu : VR x (.ptr s j g off) u) (hv : VR x b v) {o : Ob} (ho : x.H.ob s j = some o) (hg : o.g = g) (hl : b.cells.length = T.size) (hb : off + T.size ≤ o.cells.length) (hc : b.cells.all AV.isCell = true) :
    ∃ w', (Instr.storeAt t u v).run P x.w = .ok () w' ∧ Chg x w' (x.H.put s j ⟨g, o.z, o.cells.take off ++ b.cells ++ o.cells.drop (off + T.size)⟩) s j (x.β s j) ⟨g, o.z, o.cells.take off ++ b.cells ++ o.cells.drop (off + T.size)⟩ := by
  obtain ⟨d, i, z, hd, hi, hz, rfl⟩ := ti_spec hT
  replace hl : b.cells.length = i.size := hl
  replace hb : off + i.size ≤ o.cells.length := hb
  have hvc := hv.cells (AV.cells_ne_undef hc)
  have hlen := hvc.length
  cases hu with
  | ptr _ _ _ _ a o1 h1 h2 h3 =>
    rw [ho] at h1
    obtain rfl := Option.some.inj h1
    rw [(h3 hg).2]
    have hzo := (h3 hg).1
    obtain ⟨c, e, k1, k2, k3⟩ := hR.cellsOf ho hzo
    subst hg
    refine ⟨World.setCells x.w (x.β s j).1 ((x.β s j).2 + off) v.cells.toList, ?_, ?_⟩
    rotate_left
    · have := chg_write hR ho hzo off b.cells v.cells.toList hvc hc (by omega)
      rw [hl] at this
      exact this
    · simp only [Instr.storeAt, Instr.sureAddr, run_bind, run_pure, storeVar, run_sizeOf hi]
      rw [if_neg (by rw [← Array.length_toList, ← hlen]; omega)]
      rw [run_storeCells v.cells.toList 0 k1 (by rw [← hlen]; omega) (VRL.isCell hvc hc)]
      rfl
theorem all_get {l : List AV} (h : l.all AV.isCell = true) {i : Nat} {a : AV} (ha : l[i]? = some a) : a.isCell = true := List.all_eq_true.1 h a (List.mem_of_getElem? ha)
/-- A new object of its own. -/
theorem op_new {P : Program} {x : Cx} (hR : Rel x) {s : Nat} (hs : x.H s = []) (z : Nat) (hz : z ≠ MZ) (as : List AV) (c : Array Value) (e : TypeId) (hv : VRL x as c.toList) (hc : as.all AV.isCell = true) :
    (newRow e c).run P x.w = .ok ⟨x.w.heap.size, 0, none⟩ { x.w with heap := x.w.heap.push (.cells c e (0, 0)) } ∧
    Chg x { x.w with heap := x.w.heap.push (.cells c e (0, 0)) } (x.H.upd s [⟨0, z, as⟩]) s 0 (x.w.heap.size, 0) ⟨0, z, as⟩ := by
  refine ⟨by simp [newRow, newObj, run_bind, Sem.run, run_pure], newObj_chg s hs ⟨0, z, as⟩ hz c e (fun i a ha => ⟨all_get hc ha, ?_⟩) (by have := hv.length; simp at this ⊢; omega) x.w rfl rfl rfl rfl⟩
  obtain ⟨u, h1, h2⟩ := hv.get ha
  exact ⟨u, by simpa using h1, h2⟩
theorem ob_new (H : Heap) (s : Nat) (o : Ob) : (H.upd s [o]).ob s 0 = some o := by simp [Heap.ob_upd_same]
theorem vr_newptr (x : Cx) (w' : World) (s z : Nat) (hz : z ≠ MZ) (as : List AV) : VR ⟨w', x.Z, x.β.upd s 0 (x.w.heap.size, 0), x.H.upd s [⟨0, z, as⟩]⟩ (.ptr s 0 0 0) (.pointer (some ⟨x.w.heap.size, 0, none⟩)) :=
  .ptr s 0 0 0 _ ⟨0, z, as⟩ (ob_new _ _ _) (Nat.le_refl _) (fun _ => ⟨hz, by simp [Bt.upd_same]⟩)
theorem vr_newsl (x : Cx) (s z n : Nat) (as : List AV) (c : Array Value) (e : TypeId) (hn : n * z ≤ c.size) (os : World) (h : os.heap = x.w.heap) : VR ⟨{ os with heap := os.heap.push (.cells c e (0, 0)) }, x.Z, x.β.upd s 0 (x.w.heap.size, 0), x.H.upd s [⟨0, z, as⟩]⟩ (.sl s 0 0 0 n) (.slice (some ⟨x.w.heap.size, 0, none⟩) n n) :=
  .sl s 0 0 0 n n _ ⟨0, z, as⟩ (ob_new _ _ _) (Nat.le_refl _) (Nat.le_refl _) (fun _ => ⟨0, c, e, by simp [Bt.upd_same], by simp [Bt.upd_same, h], by simpa using hn, .inr (by simp [Bt.upd_same])⟩)
end Go.Proofs.YtffiddkignmobaaDoorVe
end
section
/- VE, part E: values of several cells, slices that are made. -/
namespace Go.Proofs.YtffiddkignmobaaDoorVe
theorem ofVal_cells (x : Cx) (z : Value) : VRL x (ofVal z).cells z.cells.toList := by
  have h := ofVal_vr x z
  by_cases hu : ofVal z = .undef
  · rw [hu]
    have hz : z.cells = #[z] := by
      cases z <;> first | rfl | (simp [ofVal] at hu)
    rw [hz]
    exact .cons _ _ _ _ (.undef z) .nil
  · exact h.cells hu
theorem foldl_set (off : Nat) : ∀ (vs : List Value) (k : Nat) (cs : Array Value), off + k + vs.length ≤ cs.size →
    ((vs.zipIdx k).foldl (fun cs (p : Value × Nat) => cs.setIfInBounds (off + p.2) p.1) cs).toList = cs.toList.take (off + k) ++ vs ++ cs.toList.drop (off + k + vs.length) := by
  intro vs
  induction vs with
  | nil => intro k cs _; simp
  | cons v vs ih =>
    intro k cs h
    simp only [List.zipIdx_cons, List.foldl_cons]
    rw [ih (k + 1) _ (by simp at h ⊢; omega)]
    have hlt : off + k < cs.toList.length := by simp at h ⊢; omega
    simp only [Array.toList_setIfInBounds]
    apply List.ext_getElem?
    intro m
    simp only [List.getElem?_append, List.length_append, List.length_take, List.length_set, List.length_cons, List.getElem?_take, List.getElem?_drop, List.getElem?_set]
    repeat' split
    all_goals first
      | rfl
      | omega
      | (congr 1; omega)
      | (rename_i h1 h2; try omega)
      | skip
    all_goals first
      | (subst_vars; rw [List.getElem?_cons_zero.symm]; congr 1; omega)
      | (rw [show m - min (off + k) cs.toList.length = (m - min (off + (k + 1)) cs.toList.length) + 1 by omega]; rfl)
      | skip
theorem fill_one (cells : Array Value) (off : Nat) (v : Value) (h : off + v.cells.size ≤ cells.size) :
    (v.cells.zipIdx.foldl (fun cs (p : Value × Nat) => cs.setIfInBounds (off + p.2) p.1) cells).toList = cells.toList.take off ++ v.cells.toList ++ cells.toList.drop (off + v.cells.toList.length) := by
  have := foldl_set off v.cells.toList 0 cells (by simpa using h)
  rw [← Array.foldl_toList, Array.toList_zipIdx]
  simpa using this
inductive PR (x : Cx) : List (Nat × AV) → List (Nat × Value) → Prop
  | nil : PR x [] []
  | cons (i : Nat) (a : AV) (v : Value) (ps : List (Nat × AV)) (qs : List (Nat × Value)) : VR x a v → PR x ps qs → PR x ((i, a) :: ps) ((i, v) :: qs)
theorem fill_spec {x : Cx} (place : Nat → Option (Nat × Nat)) : ∀ {ps : List (Nat × AV)} {qs : List (Nat × Value)}, PR x ps qs → ∀ {as : List AV} {c : Array Value} {cs : List AV}, VRL x as c.toList → fillA place as ps = some cs →
    ∃ r, Instr.fill place c qs = some r ∧ VRL x cs r.toList := by
  intro ps qs h
  induction h with
  | nil =>
    intro as c cs hv hf
    simp only [fillA, Option.some.injEq] at hf
    subst hf
    exact ⟨c, rfl, hv⟩
  | cons i a v ps qs hav _ ih =>
    intro as c cs hv hf
    simp only [fillA] at hf
    simp only [Instr.fill]
    cases hp : place i with
    | none => rw [hp] at hf; cases hf
    | some p =>
      obtain ⟨off, size⟩ := p
      rw [hp] at hf
      simp only at hf ⊢
      split at hf
      · cases hf
      · rename_i hc
        have hc1 : a.cells.length = size := by omega
        have hc2 : off + a.cells.length ≤ as.length := by omega
        have hc3 : a.ok ≠ false := fun e => hc (.inr (.inr e))
        have hau : a ≠ .undef := by rintro rfl; simp [AV.ok] at hc3
        have hvc := hav.cells hau
        have hl := hvc.length
        have hl2 := hv.length
        simp only [Array.length_toList] at hl hl2
        rw [if_neg (by simp; omega)]
        refine ih ?_ hf
        rw [fill_one c off v (by omega)]
        have h3 : a.cells.length = v.cells.toList.length := hvc.length
        rw [h3]
        exact ((hv.take off).append hvc).append (hv.drop _)
theorem VRL.replicate {x : Cx} {t : List AV} {v : List Value} (h : VRL x t v) : ∀ n, VRL x (List.replicate n t).flatten (List.replicate n v).flatten
  | 0 => by simpa using VRL.nil
  | n + 1 => by simpa [List.replicate_succ] using h.append (VRL.replicate h n)
theorem range_mod (z : Array Value) (hz : z.size ≠ 0) : ∀ n, ((Array.range (n * z.size)).map fun i => z[i % z.size]!).toList = (List.replicate n z.toList).flatten := by
  intro n
  apply List.ext_getElem?
  intro i
  rw [Array.toList_map, Array.toList_range, List.getElem?_map]
  have hf : (List.replicate n z.toList).flatten[i]? = if i < n * z.size then z.toList[i % z.size]? else none := by
    induction n generalizing i with
    | zero => simp
    | succ n ih =>
      rw [List.replicate_succ, List.flatten_cons, List.getElem?_append]
      simp only [Array.length_toList]
      by_cases h : i < z.size
      · rw [if_pos h, if_pos (by rw [Nat.succ_mul]; omega), Nat.mod_eq_of_lt h]
      · rw [if_neg h, ih, Nat.mod_eq_sub_mod (by omega : i ≥ z.size)]
        by_cases h2 : i - z.size < n * z.size
        · rw [if_pos h2, if_pos (by rw [Nat.succ_mul]; omega)]
        · rw [if_neg h2, if_neg (by rw [Nat.succ_mul]; omega)]
  rw [hf]
  by_cases h : i < n * z.size
  · rw [if_pos h, List.getElem?_range h]
    have hm : i % z.size < z.size := Nat.mod_lt _ (by omega)
    simp [hm]
  · rw [if_neg h, List.getElem?_eq_none (by simp; omega)]
    rfl
end Go.Proofs.YtffiddkignmobaaDoorVe
end
section
/- VE, part F: append and copy. -/
namespace Go.Proofs.YtffiddkignmobaaDoorVe
theorem row_spec {P : Program} {x : Cx} (hR : Rel x) {z m : Nat} {a : AV} {xs : List AV} {u : Value} (h : rowA x.H z a = some xs) (hm : lenA a = some m) (hl : xs.length = m * z) (hv : VR x a u) :
    ∃ vs : List Value, Builtin.lenOf u = pure m ∧ VRL x xs vs ∧ ∀ (w : World), w.heap = x.w.heap → ∀ k, k ≤ m → (Builtin.firstCells z k u).run P w = .ok (vs.take (k * z)).toArray w := by
  have key : ∀ (w : World), w.heap = x.w.heap → ∀ b off, w.cell? ⟨b, off, none⟩ = x.w.cell? ⟨b, off, none⟩ := fun w hw b off => cell_of_heap (by rw [hw])
  have load1 : ∀ (A : Option Addr) (c : Nat) (w : World), w.heap = x.w.heap → ∀ k, k ≤ 0 → (Builtin.firstCells z k (.slice A 0 c)).run P w = .ok (([] : List Value).take (k * z)).toArray w := by
    intro A c w _ k hk
    obtain rfl : k = 0 := by omega
    cases A <;> simp [Builtin.firstCells, run_pure, loadCells, loadCellsFrom]
  cases hv <;> simp only [rowA] at h <;> try cases h
  case str b =>
    simp only [lenA, Option.some.injEq] at hm
    subst hm
    split at h
    · rename_i hz
      subst hz
      obtain ⟨rfl⟩ := h
      refine ⟨b.data.toList.map fun c => .int .u8 (c.toNat : Int), rfl, VRL.of_get _ _ (by simp) (fun i a ha => ?_), fun w _ k hk => ?_⟩
      · rw [List.getElem?_map, Option.map_eq_some_iff] at ha
        obtain ⟨c, hc, rfl⟩ := ha
        exact ⟨_, by rw [List.getElem?_map, hc]; rfl, .int _ _⟩
      · simp only [Builtin.firstCells, run_pure]
        congr 1
        apply Array.ext'
        simp [ByteArray.data_extract, List.map_take]
    · cases h
  case nil =>
    simp only [lenA, Option.some.injEq] at hm
    subst hm
    exact ⟨[], rfl, .nil, load1 none 0⟩
  case fz n cs hf =>
    simp only [lenA, Option.some.injEq] at hm
    subst hm
    split at h
    · obtain ⟨rfl⟩ := h
      cases hf with
      | sl0 A cap => exact ⟨[], rfl, .nil, load1 A cap⟩
      | sl _ cap b off _ vs h0 h1 h2 h3 h4 =>
        refine ⟨vs, rfl, FRL.vrl h3, fun w hw k hk => ?_⟩
        rename_i hcs
        have hlen := FRL.length h3
        have hk2 : k * z ≤ n * z := Nat.mul_le_mul_right z hk
        have e : (vs.take (k * z)).length = k * z := by simp; omega
        simp only [Builtin.firstCells]
        rw [← e]
        have := run_loadCells (P := P) (w := w) (b := b) (off := off) (vs.take (k * z)) (fun i v hi => by
          rw [List.getElem?_take] at hi
          split at hi
          · rw [key w hw]; exact h2 i v hi
          · cases hi)
        rw [this]
        simp
    · cases h
  case sl s j g off n cap a o h1 h2 h3 h4 =>
    simp only [lenA, Option.some.injEq] at hm
    subst hm
    split at h
    · obtain ⟨rfl⟩ := h
      rename_i hn
      subst hn
      exact ⟨[], rfl, .nil, load1 (some a) cap⟩
    · rename_i hn
      rw [h1] at h
      simp only at h
      split at h
      · rename_i hc
        obtain ⟨rfl⟩ := h
        have hzo : o.z ≠ MZ := by
          obtain ⟨_, _, _, _, hb, _⟩ := h4 hc.1
          exact hR.noMap h1 hb
        obtain ⟨vs, e1, e2, e3⟩ := hR.cells h1 hzo off (n * z) hc.2.2
        refine ⟨vs, rfl, e2, fun w hw k hk => ?_⟩
        have hk2 : k * z ≤ n * z := Nat.mul_le_mul_right z hk
        have e : (vs.take (k * z)).length = k * z := by simp; omega
        obtain ⟨p, _, _, rfl, _, _, h5 | rfl⟩ := h4 hc.1
        · omega
        · simp only [Builtin.firstCells]
          rw [← e]
          have := run_loadCells (P := P) (w := w) (b := (x.β s j).1) (off := (x.β s j).2 + off) (vs.take (k * z)) (fun i v hi => by
            rw [List.getElem?_take] at hi
            split at hi
            · rw [key w hw]; exact e3 i v hi
            · cases hi)
          rw [this]
          simp
      · cases h
theorem grow_le (newLen : Nat) : ∀ r c, c ≤ newLen → Builtin.growBy newLen r c ≤ newLen + (newLen + 768) / 4
  | 0, c, h => by unfold Builtin.growBy; omega
  | r + 1, c, h => by
    unfold Builtin.growBy
    split
    · omega
    · by_cases h2 : c + (c + 768) / 4 ≤ newLen
      · exact grow_le newLen r _ h2
      · have : ∀ r, Builtin.growBy newLen r (c + (c + 768) / 4) = c + (c + 768) / 4 := by
          intro r
          cases r with
          | zero => rfl
          | succ r => unfold Builtin.growBy; rw [if_pos (by omega)]
        rw [this]
        omega
theorem next_le {need cap : Nat} (h : cap < need) : Builtin.nextslicecap need cap ≤ 3 * need := by
  unfold Builtin.nextslicecap
  split
  · omega
  · split
    · omega
    · have := grow_le need 4 cap (by omega)
      omega
theorem tdOf_sl {P : Program} {d : TypeDesc} {e : Nat} (h : tdOf P d = .sl e) : d = .slice e := by
  cases d <;> simp [tdOf] at h
  subst h; rfl
def DoneV (P : Program) (x : Cx) (m : Sem Value) (v : AV) (H' : Heap) : Prop :=
  ∃ u y, m.run P x.w = .ok u y.w ∧ y.H = H' ∧ Rel y ∧ Ext x y ∧ VR y v u
theorem DoneV.done {P : Program} {x : Cx} {m : Sem Value} {v : AV} {H' : Heap} (h : DoneV P x m v H') : Done P x (do pure (.value (← m))) v H' := by
  obtain ⟨u, y, h1, h2, h3, h4, h5⟩ := h
  exact ⟨.value u, u, y, by simp only [run_bind, h1, run_pure], .inl rfl, h2, h3, h4, h5⟩
theorem DoneV.same {P : Program} {x : Cx} {m : Sem Value} {v : AV} {u : Value} (hR : Rel x) (h : m.run P x.w = .ok u x.w) (hv : VR x v u) : DoneV P x m v x.H :=
  ⟨u, x, h, rfl, hR, Ext.refl x, hv⟩
theorem DoneV.chg {P : Program} {x : Cx} {m : Sem Value} {v : AV} {u : Value} {w' : World} {H' : Heap} {s j : Nat} {p : Nat × Nat} {o' : Ob} (hR : Rel x) (hc : Chg x w' H' s j p o') (h : m.run P x.w = .ok u w') (hv : VR ⟨w', x.Z, x.β.upd s j p, H'⟩ v u) : DoneV P x m v H' :=
  ⟨u, ⟨w', x.Z, x.β.upd s j p, H'⟩, h, rfl, hc.rel hR, hc.ext hR, hv⟩
theorem run_append {P : Program} {t u e : TypeId} {i : TypeInfo} {d2 : TypeDesc} {z : Value} (ht : P.underlying t = some (.slice e)) (hu : P.underlying u = some d2) (h2 : ∀ k, d2 ≠ .int k) (hi : P.info? e = some i) (hz : i.zero = some z) (hb : i.bytes ≠ 0) (ty : TypeId) (base : Option Addr) (k cap : Nat) (xv : Value) (m : Nat) (hlx : Builtin.lenOf xv = pure m) (w : World)
    (hlim : ¬ k + m ≤ cap → Builtin.nextslicecap (k + m) cap * i.bytes ≤ 2 ^ 48)
    (new : List Value) (hnew : ∀ w1 : World, w1.heap = w.heap → (Builtin.firstCells i.size m xv).run P w1 = .ok new.toArray w1) (old : List Value) (hold : ∀ w1 : World, w1.heap = w.heap → (Builtin.firstCells i.size k (.slice base k cap)).run P w1 = .ok old.toArray w1) :
    (k + m ≤ cap → (Builtin.append_ #[t, u] ty #[.slice base k cap, xv]).run P w = ((do (match base with | some a => storeCells (a.add (k * i.size)) new | none => pure ()); pure (.slice base (k + m) cap)) : Sem Value).run P w) ∧
    (¬ k + m ≤ cap → ∃ N, k + m ≤ N ∧ (Builtin.append_ #[t, u] ty #[.slice base k cap, xv]).run P w = .ok (.slice (some ⟨w.heap.size, 0, none⟩) (k + m) N) { w with drawn := w.drawn + 1, heap := w.heap.push (.cells (old.toArray ++ new.toArray ++ Builtin.zeroCells z.cells (N - (k + m))) e (0, 0)) }) := by
  have hnot : (match d2 with | .int _ => true | _ => false) = false := by
    cases d2 <;> first | rfl | exact absurd rfl (h2 _)
  constructor
  · intro hc
    simp only [Builtin.append_]
    simp [run_bind, run_pure, run_underlying ht, run_sizeOf hi, run_underlying hu, hnot, hlx, hc, hnew w rfl]
    cases base <;> simp [run_bind, run_pure]
  · intro hc
    refine ⟨k + m + (w.tape w.drawn (.appendCap (k + m) cap e)) % (2 ^ 63 - (k + m)), by omega, ?_⟩
    have hl := hlim hc
    simp only [Builtin.append_]
    simp [run_bind, run_pure, run_underlying ht, run_sizeOf hi, run_underlying hu, hnot, hlx, hc, run_typeInfo hi, hb, run_zeroValue hi hz, Nat.not_lt.2 hl, choose, Sem.run, Question.forced, Question.cut, askRoom]
    simp [hold w.drew rfl, hnew w.drew rfl, newRow, newObj, Sem.run, run_bind, run_pure, Array.append_assoc]
    rw [show ((old ++ new).toArray : Array Value) = old.toArray ++ new.toArray by simp, Array.append_assoc]
    rfl
theorem VRL.set_irrel {x : Cx} {as : List AV} {c : Array Value} (h : VRL x as (c.toList.take as.length)) {i : Nat} {a : AV} (ha : as[i]? = some a) : ∃ v : Value, c[i]? = some v ∧ VR x a v := by
  obtain ⟨u, h1, h2⟩ := h.get ha
  rw [List.getElem?_take] at h1
  split at h1
  · exact ⟨u, by simpa using h1, h2⟩
  · cases h1
/-- The old cells and the new ones, at the head of a new block. -/
theorem big_get {x : Cx} {as bs : List AV} {old new : List Value} (h1 : VRL x as old) (h2 : VRL x bs new) (rest : Array Value) {i : Nat} {a : AV} (ha : (as ++ bs)[i]? = some a) : ∃ v : Value, (old.toArray ++ new.toArray ++ rest)[i]? = some v ∧ VR x a v := by
  obtain ⟨u, h3, h4⟩ := (h1.append h2).get ha
  refine ⟨u, ?_, h4⟩
  have hl : i < (old ++ new).length := (List.getElem?_eq_some_iff.1 h3).1
  rw [show old.toArray ++ new.toArray = (old ++ new).toArray by simp, Array.getElem?_append_left (by simpa using hl)]
  simpa using h3
/-- An append in place. -/
theorem chg_append {x : Cx} (hR : Rel x) {s j : Nat} {o : Ob} (ho : x.H.ob s j = some o) {off n g z : Nat} (hzz : z ≠ MZ) (hg : o.g = g) (hok : off + n ≤ o.cells.length) {xs : List AV} {new : List Value} (hn : VRL x xs new) (hc : xs.all AV.isCell = true)
    {c : Array Value} {e : TypeId} (hb : x.w.heap[(x.β s j).1]? = some (.cells c e (0, 0))) (hsp : (x.β s j).2 + off + n + new.length ≤ c.size) :
    Chg x (World.setCells x.w (x.β s j).1 ((x.β s j).2 + off + n) new) (x.H.put s j ⟨g + 1, z, (o.cells.drop off).take n ++ xs⟩) s j ((x.β s j).1, (x.β s j).2 + off) ⟨g + 1, z, (o.cells.drop off).take n ++ xs⟩ ∧
    ∃ c', (World.setCells x.w (x.β s j).1 ((x.β s j).2 + off + n) new).heap[(x.β s j).1]? = some (.cells c' e (0, 0)) ∧ c'.size = c.size := by
  obtain ⟨c', g1, g2, g3, g4, g5, g6, g7, g8⟩ := setCells_spec new (off := (x.β s j).2 + off + n) hb
  obtain ⟨c0, e0, h1, h2, h3⟩ := hR.cellsOf ho (hR.noMap ho hb)
  rw [hb] at h1
  injection h1 with h1
  injection h1 with h1 h1'
  subst h1 h1'
  have hlen := hn.length
  refine ⟨⟨fun t i => Heap.ob_put ho _ t i, .inr ⟨hzz, c', e, g1, by simp; omega, fun i a ha => ?_⟩, .inr ⟨o, ho, rfl⟩, fun k _ hk => g3 k hk, fun o2 h4 => ?_, g6, g7, g8, by rw [g5]; exact Nat.le_refl _⟩, c', g1, g2⟩
  · rw [List.getElem?_append] at ha
    simp only [List.length_take, List.length_drop] at ha
    by_cases hi : i < n
    · rw [if_pos (by omega), List.getElem?_take, if_pos hi, List.getElem?_drop] at ha
      obtain ⟨k1, v, k2, k3⟩ := h3 _ a ha
      refine ⟨k1, v, ?_, k3⟩
      rw [g4 _ (by simp only; omega), if_neg (by simp only; omega)]
      rw [← k2]; congr 1; simp only; omega
    · rw [if_neg (by omega)] at ha
      obtain ⟨v, k2, k3⟩ := hn.get ha
      refine ⟨all_get hc ha, v, ?_, k3⟩
      have hlt := (List.getElem?_eq_some_iff.1 k2).1
      rw [g4 _ (by simp only; omega), if_pos (by simp only; omega)]
      rw [← k2]; congr 1; simp only; omega
  · rw [ho] at h4
    obtain rfl := Option.some.inj h4
    exact ⟨by simp only; omega, fun h => by simp only at h; omega⟩
theorem op_append {P : Program} {x : Cx} (hR : Rel x) {s : Nat} (hs : x.H s = []) {t u e : TypeId} {a1 b1 : Nat} {z1 : List AV} {U T : TI} (ht : ti P t = some ⟨.sl e, a1, b1, z1⟩) (hu : ti P u = some U) (hss : U.d.isSS = true) (hT : ti P e = some T)
    (hb : T.bytes ≠ 0) (hzl : T.zero.length = T.size) {a xa : AV} {av xv : Value} (hav : VR x a av) (hxv : VR x xa xv) {xs : List AV} {m : Nat} (hrow : rowA x.H T.size xa = some xs) (hm : lenA xa = some m) (hl : xs.length = m * T.size) (hmb : m * T.bytes ≤ 35184372088832)
    (hc : xs.all AV.isCell = true) {v : AV} {H' : Heap} (h : addA T.size (35184372088832 / T.bytes) x.H s a m xs = some (v, H')) (ty : TypeId) :
    DoneV P x (Builtin.append_ #[t, u] ty #[av, xv]) v H' := by
  obtain ⟨d, i, z, hd, hi, hz, rfl⟩ := ti_spec hT
  obtain ⟨dt, it, zt, hdt, hit, hzt, et⟩ := ti_spec ht
  obtain ⟨du, iu, zu, hdu, hiu, hzu, eu⟩ := ti_spec hu
  obtain rfl := tdOf_sl (congrArg TI.d et).symm
  have hzi : i.size ≠ MZ := ti_size hT
  replace hb : i.bytes ≠ 0 := hb
  replace hmb : m * i.bytes ≤ 35184372088832 := hmb
  replace hl : xs.length = m * i.size := hl
  replace hzl : (ofVal z).cells.length = i.size := hzl
  have hzs : z.cells.size = i.size := by have := (ofVal_cells x z).length; simp at this; omega
  obtain ⟨new, hlx, hn1, hn2⟩ := row_spec (P := P) hR hrow hm hl hxv
  have hnl := hn1.length
  have hnew : ∀ w1 : World, w1.heap = x.w.heap → (Builtin.firstCells i.size m xv).run P w1 = .ok new.toArray w1 := fun w1 hw => by
    have := hn2 w1 hw m (Nat.le_refl _)
    rwa [show new.take (m * _) = new from List.take_of_length_le (by show new.length ≤ m * i.size; omega)] at this
  have hu2 : ∀ k, du ≠ .int k := fun k h => by
    rw [eu, h] at hss
    cases hss
  have bound : ∀ N, N ≤ 35184372088832 / i.bytes → N * i.bytes ≤ 35184372088832 := fun N hN => (Nat.le_div_iff_mul_le (by omega)).1 hN
  cases hav <;> simp only [addA] at h <;> try cases h
  case nil =>
    have hr := run_append (P := P) hdt hdu hu2 hi hz hb ty none 0 0 xv m hlx x.w (fun hc => by
      have := next_le (need := 0 + m) (cap := 0) (by omega)
      have h3 : Builtin.nextslicecap (0 + m) 0 * i.bytes ≤ 3 * (0 + m) * i.bytes := Nat.mul_le_mul_right _ this
      have h4 : 3 * (0 + m) * i.bytes = 3 * (m * i.bytes) := by rw [Nat.zero_add, Nat.mul_assoc]
      omega) new hnew [] (fun w1 _ => by simp [Builtin.firstCells, run_pure])
    by_cases hm0 : m = 0
    · subst hm0
      simp only [if_true, Option.some.injEq, Prod.mk.injEq] at h
      obtain ⟨rfl, rfl⟩ := h
      refine DoneV.same hR ?_ .nil
      rw [hr.1 (by omega)]
      simp [run_bind, run_pure]
    · simp only [hm0, if_false, Option.some.injEq, Prod.mk.injEq] at h
      obtain ⟨rfl, rfl⟩ := h
      obtain ⟨N, hN, hr2⟩ := hr.2 (by omega)
      have hcg := newObj_chg (x := x) s hs ⟨0, i.size, xs⟩ hzi ([].toArray ++ new.toArray ++ Builtin.zeroCells z.cells (N - (0 + m))) e (fun k a ha => ⟨all_get hc ha, big_get (as := []) .nil hn1 _ ha⟩) (by simp; omega) { x.w with drawn := x.w.drawn + 1 } rfl rfl rfl rfl
      refine DoneV.chg hR hcg hr2 ?_
      rw [Nat.zero_add]
      refine VR.sl s 0 0 0 m N _ ⟨0, i.size, xs⟩ (ob_new _ _ _) (Nat.le_refl _) (by omega) (fun _ => ⟨0, ([].toArray ++ new.toArray ++ Builtin.zeroCells z.cells (N - m)), e, by simp [Bt.upd_same], by simp [Bt.upd_same], ?_, .inr (by simp [Bt.upd_same])⟩)
      simp only [Builtin.zeroCells]
      simp [hzs]
      rw [← hnl, hl, ← Nat.add_mul]
      exact Nat.mul_le_mul_right _ (by omega)
  case sl s' j g off k cap av o h1 h2 h3 h4 =>
    rw [h1] at h
    simp only at h
    split at h
    · rename_i hcnd
      obtain ⟨hg, hoz, hok, hlim⟩ := hcnd
      simp only [Option.some.injEq, Prod.mk.injEq] at h
      obtain ⟨rfl, rfl⟩ := h
      replace hoz : o.z = i.size := hoz
      replace hok : off + k * i.size ≤ o.cells.length := hok
      have hzo : o.z ≠ MZ := by rw [hoz]; exact hzi
      obtain ⟨c, e', hb1, hb2, hb3⟩ := hR.cellsOf h1 hzo
      have hbnd := bound _ hlim
      obtain ⟨old, ho1, ho2, ho3⟩ := hR.cells h1 hzo off (k * i.size) hok
      have hold : ∀ w1 : World, w1.heap = x.w.heap → (Builtin.firstCells i.size k (.slice (some av) k cap)).run P w1 = .ok old.toArray w1 := fun w1 hw => by
        obtain ⟨p, _, _, rfl, _, _, h5 | rfl⟩ := h4 hg
        · have hk : k = 0 := by omega
          subst hk
          have : old = [] := by simpa using ho1
          subst this
          simp [Builtin.firstCells, loadCells, loadCellsFrom, run_pure]
        · simp only [Builtin.firstCells]
          rw [← ho1]
          exact run_loadCells (P := P) (w := w1) (b := (x.β s' j).1) (off := (x.β s' j).2 + off) old (fun q v hq => by
            rw [cell_of_heap (w := x.w) (by rw [hw])]; exact ho3 q v hq)
      have hr := run_append (P := P) hdt hdu hu2 hi hz hb ty (some av) k cap xv m hlx x.w (fun hc => by
        have := next_le (need := k + m) (cap := cap) (by omega)
        have h5 : Builtin.nextslicecap (k + m) cap * i.bytes ≤ 3 * (k + m) * i.bytes := Nat.mul_le_mul_right _ this
        have h6 : 3 * (k + m) * i.bytes = 3 * ((k + m) * i.bytes) := by rw [Nat.mul_assoc]
        omega) new hnew old hold
      by_cases hcap : k + m ≤ cap
      · -- in place
        by_cases hc0 : cap = 0
        · have hk : k = 0 := by omega
          have hm0 : m = 0 := by omega
          subst hk hm0
          have hn0 : new = [] := by
            have : new.length = 0 := by rw [← hnl, hl]; simp
            simpa using this
          subst hn0
          have hx0 : xs = [] := by
            have : xs.length = 0 := by rw [hl]; simp
            simpa using this
          subst hx0
          obtain ⟨hcg, c', k1, k2⟩ := chg_append hR h1 hzi (off := off) (n := 0 * i.size) (z := i.size) hg (by simpa using hok) VRL.nil rfl hb1 (by simp at hok ⊢; omega)
          obtain ⟨p, c3, e3, rfl, h6, h7, _⟩ := h4 hg
          rw [hb1] at h6
          injection h6 with h6
          injection h6 with h6 h6'
          subst h6 h6'
          refine DoneV.chg hR hcg ?_ (.sl s' j (g + 1) 0 (0 + 0) cap ⟨(x.β s' j).1, p, none⟩ _ (by rw [Heap.ob_put h1]; simp; rfl) (Nat.le_refl _) (by omega) (fun _ => ⟨p, c', e', by simp [Bt.upd_same], by simpa [Bt.upd_same] using k1, by rw [hc0] at h7 ⊢; simp at h7 ⊢; omega, .inl hc0⟩))
          rw [hr.1 hcap]
          simp [run_bind, run_pure, storeCells, World.setCells]
        · obtain ⟨p, c3, e3, rfl, h6, h7, h5 | rfl⟩ := h4 hg
          · exact absurd h5 hc0
          · rw [hb1] at h6
            injection h6 with h6
            injection h6 with h6 h6'
            subst h6 h6'
            rw [hoz] at h7
            have hsp : (x.β s' j).2 + off + k * i.size + new.length ≤ c.size := by
              have : (k + m) * i.size ≤ cap * i.size := Nat.mul_le_mul_right _ hcap
              rw [Nat.add_mul] at this
              rw [← hnl, hl]; omega
            obtain ⟨hcg, c', k1, k2⟩ := chg_append hR h1 hzi (off := off) (n := k * i.size) (z := i.size) hg hok hn1 hc hb1 hsp
            refine DoneV.chg hR hcg ?_ (.sl s' j (g + 1) 0 (k + m) cap ⟨(x.β s' j).1, (x.β s' j).2 + off, none⟩ _ (by rw [Heap.ob_put h1]; simp; rfl) (Nat.le_refl _) hcap (fun _ => ⟨(x.β s' j).2 + off, c', e', by simp [Bt.upd_same], by simpa [Bt.upd_same] using k1, by rw [k2]; exact h7, .inr (by simp [Bt.upd_same])⟩))
            rw [hr.1 hcap]
            simp only [run_bind, add_off]
            rw [run_storeCells new 0 hb1 (by omega) (VRL.isCell hn1 hc)]
            rfl
      · obtain ⟨N, hN, hr2⟩ := hr.2 hcap
        have hcg : Chg x { x.w with drawn := x.w.drawn + 1, heap := x.w.heap.push (.cells (old.toArray ++ new.toArray ++ Builtin.zeroCells z.cells (N - (k + m))) e (0, 0)) } (x.H.put s' j ⟨g + 1, i.size, (o.cells.drop off).take (k * i.size) ++ xs⟩) s' j (x.w.heap.size, 0) ⟨g + 1, i.size, (o.cells.drop off).take (k * i.size) ++ xs⟩ :=
          ⟨fun t q => Heap.ob_put h1 _ t q, .inr ⟨hzi, old.toArray ++ new.toArray ++ Builtin.zeroCells z.cells (N - (k + m)), e, by simp, by simp; omega, fun q a ha => ⟨?_, by simpa using big_get ho2 hn1 (Builtin.zeroCells z.cells (N - (k + m))) ha⟩⟩, .inl (Nat.le_refl _), fun q hq _ => by
            simp only
            rw [Array.getElem?_push]
            simp [Nat.ne_of_lt hq], fun o2 h5 => ?_, rfl, rfl, rfl, by simp⟩
        · refine DoneV.chg hR hcg hr2 (.sl s' j (g + 1) 0 (k + m) N _ _ (by rw [Heap.ob_put h1]; simp; rfl) (Nat.le_refl _) hN (fun _ => ⟨0, old.toArray ++ new.toArray ++ Builtin.zeroCells z.cells (N - (k + m)), e, by simp [Bt.upd_same], by simp [Bt.upd_same], ?_, .inr (by simp [Bt.upd_same])⟩))
          simp only [Builtin.zeroCells]
          simp [hzs]
          rw [← hnl, hl, ho1, ← Nat.add_mul, ← Nat.add_mul]
          exact Nat.mul_le_mul_right _ (by omega)
        · rw [List.getElem?_append] at ha
          split at ha
          · rw [List.getElem?_take] at ha
            split at ha
            · rw [List.getElem?_drop] at ha
              exact (hb3 _ a ha).1
            · cases ha
          · exact all_get hc ha
        · rw [h1] at h5
          obtain rfl := Option.some.inj h5
          exact ⟨by simp only; omega, fun h => by simp only at h; omega⟩
    · cases h
theorem op_copy {P : Program} {x : Cx} (hR : Rel x) {t u e e2 : TypeId} {a1 b1 : Nat} {z1 : List AV} {T : TI} (ht : ti P t = some ⟨.sl e, a1, b1, z1⟩) (hT : ti P e = some T)
    {s j g off n : Nat} {xa : AV} {dv xv : Value} (hdv : VR x (.sl s j g off n) dv) (hxv : VR x xa xv) {xs : List AV} {m : Nat} (hrow : rowA x.H T.size xa = some xs) (hm : lenA xa = some m) (hl : xs.length = m * T.size) {o : Ob} (ho : x.H.ob s j = some o) (hg : o.g = g)
    (hoff : off + n * T.size ≤ o.cells.length) (hc : xs.all AV.isCell = true) (ty : TypeId) :
    DoneV P x (Builtin.copy_ #[t, u] ty #[dv, xv]) (.int .i64 (min m n : Nat)) (x.H.put s j ⟨g, o.z, o.cells.take off ++ xs.take (min m n * T.size) ++ o.cells.drop (off + min m n * T.size)⟩) := by
  obtain ⟨d, i, z, hd, hi, hz, rfl⟩ := ti_spec hT
  obtain ⟨dt, it, zt, hdt, hit, hzt, et⟩ := ti_spec ht
  obtain rfl := tdOf_sl (congrArg TI.d et).symm
  replace hl : xs.length = m * i.size := hl
  replace hoff : off + n * i.size ≤ o.cells.length := hoff
  obtain ⟨new, hlx, hn1, hn2⟩ := row_spec (P := P) hR hrow hm hl hxv
  have hnl := hn1.length
  have hnew := hn2 x.w rfl (min m n) (Nat.min_le_left _ _)
  replace hnew : (Builtin.firstCells i.size (min m n) xv).run P x.w = .ok (new.take (min m n * i.size)).toArray x.w := hnew
  have hk1 : min m n * i.size ≤ m * i.size := Nat.mul_le_mul_right _ (Nat.min_le_left _ _)
  have hk2 : min m n * i.size ≤ n * i.size := Nat.mul_le_mul_right _ (Nat.min_le_right _ _)
  have hal : (xs.take (min m n * i.size)).length = min m n * i.size := by simp; omega
  have hvl : (new.take (min m n * i.size)).length = min m n * i.size := by simp; omega
  have hca : (xs.take (min m n * i.size)).all AV.isCell = true := by
    rw [List.all_eq_true] at hc ⊢
    exact fun a ha => hc a (List.mem_of_mem_take ha)
  have hzo : o.z ≠ MZ := by
    cases hdv with
    | sl _ _ _ _ _ cap av o1 h1 h2 h3 h4 =>
      rw [ho] at h1
      obtain rfl := Option.some.inj h1
      obtain ⟨_, _, _, _, hb, _⟩ := h4 hg
      exact hR.noMap ho hb
  obtain ⟨c, e', hb1, hb2, hb3⟩ := hR.cellsOf ho hzo
  cases hdv with
  | sl _ _ _ _ _ cap av o1 h1 h2 h3 h4 =>
    rw [ho] at h1
    obtain rfl := Option.some.inj h1
    subst hg
    have hcg := chg_write hR ho hzo off _ _ (hn1.take (min m n * i.size)) hca (by omega)
    rw [hal] at hcg
    refine DoneV.chg hR hcg ?_ (.int .i64 _)
    have hld : ∀ a n c, Builtin.lenOf (.slice a n c) = pure n := fun _ _ _ => rfl
    obtain ⟨p, _, _, rfl, _, _, h5 | rfl⟩ := h4 rfl
    · have hn0 : n = 0 := by omega
      subst hn0
      simp only [Nat.min_zero, Nat.zero_mul, List.take_zero] at hnew ⊢
      simp [Builtin.copy_, run_bind, run_pure, run_underlying hdt, run_sizeOf hi, hlx, hld, hnew, storeCells, World.setCells, goInt]
    · have hst := run_storeCells (P := P) (new.take (min m n * i.size)) 0 (w := x.w) (b := (x.β s j).1) (off := (x.β s j).2 + off) hb1 (by omega) (VRL.isCell (hn1.take _) hca)
      simp only [Nat.add_zero] at hst
      simp [Builtin.copy_, run_bind, run_pure, run_underlying hdt, run_sizeOf hi, hlx, hld, hnew, hst, goInt]
      try rfl
end Go.Proofs.YtffiddkignmobaaDoorVe
end
section
/- VE, part G: every operation but the calls of functions. -/
namespace Go.Proofs.YtffiddkignmobaaDoorVe
theorem ev_args {x : Cx} {ρ : Operand → AV} {σ : Operand → Value} : ∀ (l : List Operand), (∀ q ∈ l, VR x (ρ q) (σ q)) → VRL x (l.map ρ) (l.map σ)
  | [], _ => .nil
  | q :: l, h => .cons _ _ _ _ (h q (by simp)) (ev_args l (fun p hp => h p (by simp [hp])))
theorem ev_parts {x : Cx} {ρ : Operand → AV} {σ : Operand → Value} : ∀ (l : List (Nat × Operand)), (∀ p ∈ l, VR x (ρ p.2) (σ p.2)) → PR x (l.map fun p => (p.1, ρ p.2)) (l.map fun p => (p.1, σ p.2))
  | [], _ => .nil
  | p :: l, h => .cons _ _ _ _ _ (h p (by simp)) (ev_parts l (fun q hq => h q (by simp [hq])))
theorem tdOf_st {P : Program} {d : TypeDesc} {l : List (Nat × Nat)} (h : tdOf P d = .st l) : ∃ fs, d = .struct fs ∧ l = fs.toList.map fun f => (f.offset, sz P f.type) := by
  cases d <;> simp [tdOf] at h
  exact ⟨_, rfl, h.symm⟩
theorem tdOf_arr {P : Program} {d : TypeDesc} {n e : Nat} (h : tdOf P d = .arr n e) : d = .array n e := by
  cases d <;> simp [tdOf] at h
  obtain ⟨rfl, rfl⟩ := h; rfl
theorem tdOf_str {P : Program} {d : TypeDesc} (h : tdOf P d = .str) : d = .string := by
  cases d <;> simp [tdOf] at h
  rfl
theorem tdOf_int {P : Program} {d : TypeDesc} {k : IntKind} (h : tdOf P d = .int k) : d = .int k := by
  cases d <;> simp [tdOf] at h
  subst h; rfl
theorem places_of {P : Program} : ∀ (fs : List Field), (fs.all fun f => (P.info? f.type).isSome) = true → fs.mapM (fun f => (P.info? f.type).map fun i => (f.offset, i.size)) = some (fs.map fun f => (f.offset, sz P f.type))
  | [], _ => rfl
  | f :: fs, h => by
    simp only [List.all_cons, Bool.and_eq_true] at h
    obtain ⟨i, hi⟩ := Option.isSome_iff_exists.1 h.1
    simp [List.mapM_cons, places_of fs h.2, hi, sz]
theorem op_build {P : Program} {x : Cx} (hR : Rel x) {t : TypeId} {ps : Array (Nat × Operand)} {ρ : Operand → AV} {σ : Operand → Value} (hρ : ∀ p ∈ ps.toList, VR x (ρ p.2) (σ p.2)) (s : Nat) {v : AV} {H' : Heap} (h : opE P s ρ x.H (.build t ps) = some (v, H')) :
    DoneV P x (Instr.build t (ps.map fun (i, q) => (i, σ q))) v H' := by
  have hpr := ev_parts ps.toList hρ
  have hpl : (ps.map fun (i, q) => (i, σ q)).toList = ps.toList.map fun p => (p.1, σ p.2) := by simp
  simp only [opE] at h
  split at h
  · rename_i fs a b z hT
    obtain ⟨d, i, zv, hd, hi, hz, e1, hok, _⟩ := ti_spec' hT
    obtain ⟨fl, rfl, e2⟩ := tdOf_st (congrArg TI.d e1).symm
    have e3 : z = (ofVal zv).cells := congrArg TI.zero e1
    cases hf : fillA (fun i => fs[i]?) z (ps.toList.map fun p => (p.1, ρ p.2)) with
    | none => rw [hf] at h; cases h
    | some cs =>
      rw [hf] at h
      simp only [Option.map_some, Option.some.injEq, Prod.mk.injEq] at h
      obtain ⟨rfl, rfl⟩ := h
      obtain ⟨r, h1, h2⟩ := fill_spec (c := zv.cells) _ hpr (by rw [e3]; exact ofVal_cells x zv) hf
      have hp := run_places (P := P) x.w fl.toList _ (places_of _ hok)
      refine DoneV.same hR (u := .agg r) ?_ (by have := VR.agg cs r.toList h2; simpa using this)
      have e4 : (fun i : Nat => ((fl.toList.map fun f => (f.offset, sz P f.type)).toArray)[i]?) = (fun i : Nat => fs[i]?) := by
        funext k; rw [e2]; simp
      simp only [Instr.build, run_bind, run_zeroValue hi hz, run_underlying hd, Array.mapM_eq_mapM_toList]
      have hp' : (fl.toList.mapM fun f => do pure (f.offset, ← sizeOf f.type) : Sem (List (Nat × Nat))).run P x.w = .ok (fl.toList.map fun f => (f.offset, sz P f.type)) x.w := hp
      simp only [map_eq_pure_bind, run_bind, hp', run_pure, hpl]
      rw [e4, h1]
      rfl
  · rename_i n e a b z hT
    obtain ⟨d, i, zv, hd, hi, hz, e1, hok, _⟩ := ti_spec' hT
    obtain rfl := tdOf_arr (congrArg TI.d e1).symm
    have e3 : z = (ofVal zv).cells := congrArg TI.zero e1
    obtain ⟨ie, hie⟩ := Option.isSome_iff_exists.1 hok
    have e4 : sz P e = ie.size := by simp [sz, hie]
    cases hf : fillA (fun i => some (i * sz P e, sz P e)) z (ps.toList.map fun p => (p.1, ρ p.2)) with
    | none => rw [hf] at h; cases h
    | some cs =>
      rw [hf] at h
      simp only [Option.map_some, Option.some.injEq, Prod.mk.injEq] at h
      obtain ⟨rfl, rfl⟩ := h
      obtain ⟨r, h1, h2⟩ := fill_spec (c := zv.cells) _ hpr (by rw [e3]; exact ofVal_cells x zv) hf
      refine DoneV.same hR (u := .agg r) ?_ (by have := VR.agg cs r.toList h2; simpa using this)
      rw [e4] at h1
      simp only [Instr.build, run_bind, run_zeroValue hi hz, run_underlying hd, run_sizeOf hie, hpl, h1]
      rfl
  · cases h
end Go.Proofs.YtffiddkignmobaaDoorVe
end
section
/- VE, part I: every operation but the calls of functions, joined. -/
namespace Go.Proofs.YtffiddkignmobaaDoorVe
theorem size_zero {P : Program} {x : Cx} {z : Value} {n : Nat} (h : (ofVal z).cells.length = n) : z.cells.size = n := by
  have := (ofVal_cells x z).length; simp at this; omega
theorem op_buildSlice {P : Program} {x : Cx} (hR : Rel x) {t : TypeId} {n : Nat} {ps : Array (Nat × Operand)} {ρ : Operand → AV} {σ : Operand → Value} (hρ : ∀ p ∈ ps.toList, VR x (ρ p.2) (σ p.2)) {s : Nat} (hs : x.H s = []) {v : AV} {H' : Heap} (h : opE P s ρ x.H (.buildSlice t n ps) = some (v, H')) :
    DoneV P x (Instr.buildSlice t n (ps.map fun (i, q) => (i, σ q))) v H' := by
  have hpr := ev_parts ps.toList hρ
  have hpl : (ps.map fun (i, q) => (i, σ q)).toList = ps.toList.map fun p => (p.1, σ p.2) := by simp
  simp only [opE] at h
  split at h
  · rename_i e a b z hT
    obtain ⟨d, i, zv, hd, hi, hz, e1⟩ := ti_spec hT
    obtain rfl := tdOf_sl (congrArg TI.d e1).symm
    split at h
    · rename_i T hTe
      obtain ⟨de, ie, ze, hde, hie, hze, rfl⟩ := ti_spec hTe
      have hzi : ie.size ≠ MZ := ti_size hTe
      split at h
      · cases h
      · rename_i hcnd
        have hn : n * ie.size ≤ 4096 := by
          rcases Nat.lt_or_ge 4096 (n * ie.size) with h1 | h1
          · exact absurd (.inl h1) hcnd
          · exact h1
        have hzl : (ofVal ze).cells.length = ie.size := by
          by_cases h1 : (ofVal ze).cells.length = ie.size
          · exact h1
          · exact absurd (.inr (.inl h1)) hcnd
        have hz0 : ie.size ≠ 0 := fun h1 => hcnd (.inr (.inr h1))
        have hzs := size_zero (P := P) (x := x) hzl
        split at h
        · rename_i cs hf
          split at h
          · rename_i hall
            simp only [Option.some.injEq, Prod.mk.injEq] at h
            obtain ⟨rfl, rfl⟩ := h
            have hv0 : VRL x (List.replicate n (ofVal ze).cells).flatten ((Array.range (n * ze.cells.size)).map fun i => ze.cells[i % ze.cells.size]!).toList := by
              rw [range_mod _ (by omega)]
              exact (ofVal_cells x ze).replicate n
            have e2 : (if n * ie.size = 0 then (#[] : Array Value) else ze.cells) = ze.cells ∨ n * ie.size = 0 := by
              by_cases h1 : n * ie.size = 0
              · exact .inr h1
              · exact .inl (by rw [if_neg h1])
            obtain ⟨r, h1, h2⟩ := fill_spec (fun i => some (i * ie.size, ie.size)) hpr hv0 hf
            rw [hzs] at h1
            have hr : cs.length = n * ie.size := by
              have l1 := h2.length
              have l2 : ∀ (place : Nat → Option (Nat × Nat)) (qs : List (Nat × AV)) (as cs : List AV), fillA place as qs = some cs → cs.length = as.length := by
                intro place qs
                induction qs with
                | nil => intro as cs h; simp only [fillA, Option.some.injEq] at h; rw [h]
                | cons q qs ih =>
                  intro as cs h
                  obtain ⟨i, a⟩ := q
                  simp only [fillA] at h
                  split at h
                  · cases h
                  · split at h
                    · cases h
                    · rename_i hc
                      rw [ih _ _ h]
                      simp; omega
              rw [l2 _ _ _ _ hf, hv0.length]
              simp [hzs]
            obtain ⟨hrun, hcg⟩ := op_new (P := P) hR hs ie.size hzi cs r e h2 hall
            refine DoneV.chg hR hcg (u := .slice (some ⟨x.w.heap.size, 0, none⟩) n n) ?_ (vr_newsl x s ie.size n cs r e (by rw [← hr]; have := h2.length; simp at this; omega) x.w rfl)
            have hlim : ¬ n * ie.size > 2 ^ 24 := by omega
            simp only [Instr.buildSlice, run_bind, run_underlying hd, run_sizeOf hie, hlim, if_false]
            by_cases h0 : n * ie.size = 0
            · have hn0 : n = 0 := by
                rcases Nat.mul_eq_zero.1 h0 with h | h
                · exact h
                · exact absurd h hz0
              subst hn0
              have hr0 : ((Array.range (0 * ie.size)).map fun i => (#[] : Array Value)[i % (#[] : Array Value).size]!) = ((Array.range (0 * ie.size)).map fun i => ze.cells[i % ie.size]!) := by
                apply Array.ext <;> simp
              simp only [Nat.zero_mul, if_true, run_bind, run_pure, hpl]
              simp only [Nat.zero_mul] at h1 hr0
              rw [hr0, h1]
              simp only [run_bind, hrun, run_pure]
            · simp only [h0, if_false, run_bind, run_zeroValue hie hze, run_pure, hpl, hzs]
              rw [h1]
              simp only [run_bind, hrun, run_pure]
          · cases h
        · cases h
    · cases h
  · cases h
theorem op_makeSlice {P : Program} {x : Cx} (hR : Rel x) {t : TypeId} {l c : Operand} {ρ : Operand → AV} {σ : Operand → Value} (hl : VR x (ρ l) (σ l)) (hc : VR x (ρ c) (σ c)) {s : Nat} (hs : x.H s = []) {v : AV} {H' : Heap} (h : opE P s ρ x.H (.makeSlice t l c) = some (v, H')) :
    DoneV P x (Instr.makeSlice t (σ l) (σ c)) v H' := by
  simp only [opE] at h
  split at h
  · rename_i e a b z n m hT hn hm
    rw [hn] at hl
    rw [hm] at hc
    generalize σ l = vl at *
    generalize σ c = vc at *
    cases hl
    cases hc
    obtain ⟨d, i, zv, hd, hi, hz, e1⟩ := ti_spec hT
    obtain rfl := tdOf_sl (congrArg TI.d e1).symm
    split at h
    · rename_i T hTe
      obtain ⟨de, ie, ze, hde, hie, hze, rfl⟩ := ti_spec hTe
      have hzi : ie.size ≠ MZ := ti_size hTe
      split at h
      · rename_i hcnd
        obtain ⟨rfl, h0, hb, hbig, hzl, hz0, hall⟩ := hcnd
        simp only [Option.some.injEq, Prod.mk.injEq] at h
        obtain ⟨rfl, rfl⟩ := h
        replace hb : n.toNat * ie.bytes ≤ 140737488355328 := hb
        replace hzl : (ofVal ze).cells.length = ie.size := hzl
        replace hz0 : ie.size ≠ 0 := hz0
        have hzs := size_zero (P := P) (x := x) hzl
        have hv0 : VRL x (List.replicate n.toNat (ofVal ze).cells).flatten ((Array.range (n.toNat * ze.cells.size)).map fun i => ze.cells[i % ze.cells.size]!).toList := by
          rw [range_mod _ (by omega)]
          exact (ofVal_cells x ze).replicate n.toNat
        have hall2 : (List.replicate n.toNat (ofVal ze).cells).flatten.all AV.isCell = true := by
          rw [List.all_eq_true]
          intro a ha
          rw [List.mem_flatten] at ha
          obtain ⟨l, h1, h2⟩ := ha
          rw [List.mem_replicate] at h1
          rw [h1.2] at h2
          exact List.all_eq_true.1 hall a h2
        rw [hzs] at hv0
        obtain ⟨hrun, hcg⟩ := op_new (P := P) hR hs ie.size hzi _ _ e hv0 hall2
        refine DoneV.chg hR hcg (u := .slice (some ⟨x.w.heap.size, 0, none⟩) n.toNat n.toNat) ?_ (vr_newsl x s ie.size n.toNat _ _ e (by simp) x.w rfl)
        have hw : IntKind.i64.wrap n = n := by
          unfold IntKind.wrap; simp [IntKind.bits, IntKind.signed]; omega
        have hbb : ¬ ((ie.bytes : Int) * n > 2 ^ 48) := by
          have e2 : ((n.toNat * ie.bytes : Nat) : Int) = (ie.bytes : Int) * n := by
            rw [Int.natCast_mul, Int.toNat_of_nonneg h0, Int.mul_comm]
          omega
        have hlt : ¬ n < 0 := by omega
        have hgt : ¬ n > n := by omega
        have hroom : ¬ n.toNat * ie.bytes > roomBytes := by unfold roomBytes; omega
        simp only [Instr.makeSlice, run_bind, run_underlying hd, run_typeInfo hie, asInt, asIntOf, run_pure, hw]
        simp only [hlt, hgt, hbb, decide_false, Bool.or_false, Bool.false_eq_true, if_false, askRoom, hroom, run_bind, run_pure, run_sizeOf hie]
        by_cases hn0 : n.toNat * ie.size = 0
        · have hnz : n.toNat = 0 := by
            rcases Nat.mul_eq_zero.1 hn0 with h | h
            · exact h
            · exact absurd h hz0
          simp only [hn0, if_true, run_bind, run_pure]
          simp only [hnz, Nat.zero_mul] at hrun ⊢
          have hr0 : ((Array.range 0).map fun i => (#[] : Array Value)[i % (#[] : Array Value).size]!) = ((Array.range 0).map fun i => ze.cells[i % ie.size]!) := by
            apply Array.ext <;> simp
          rw [hr0]
          simp only [run_bind, hrun, run_pure]
        · simp only [hn0, if_false, run_bind, run_zeroValue hie hze, run_pure, hzs, hrun]
      · cases h
    · cases h
  · cases h
end Go.Proofs.YtffiddkignmobaaDoorVe
end
