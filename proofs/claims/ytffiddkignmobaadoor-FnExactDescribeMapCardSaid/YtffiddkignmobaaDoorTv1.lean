/- A typed weakest precondition over that logic, proved sound: for every program with a table of types that fits it. -/
import Derived.Test.YtffiddkignmobaaDoorVe6
set_option linter.unusedVariables false
set_option linter.unusedSimpArgs false
section
/- TV, part A: typed values over VE: what a value, an object, an operation is; when typed data are shown. -/
namespace Go.Proofs.YtffiddkignmobaaDoorTv
open Go.Proofs.YtffiddkignmobaaDoorVe
inductive Ty where
  | int (k : IntKind)
  | bool
  | fnil
  | str
  | list (t : Ty)
  | unit
  | pair (a b : Ty)
@[reducible] def Ty.den : Ty → Type
  | .int _ => Int
  | .bool => Bool
  | .fnil => Unit
  | .str => ByteArray
  | .list t => List t.den
  | .unit => Unit
  | .pair a b => a.den × b.den
/-- How many cells a value takes. -/
@[reducible] def Ty.z : Ty → Nat
  | .unit => 0
  | .pair a b => a.z + b.z
  | _ => 1
@[reducible] def Ty.flat : Ty → Bool
  | .list _ => false
  | .pair a b => a.flat && b.flat
  | _ => true
@[reducible] def Ty.isRec : Ty → Bool
  | .unit => true
  | .pair _ _ => true
  | _ => false
def dflt : (t : Ty) → t.den
  | .int _ => (0 : Int)
  | .bool => false
  | .fnil => ()
  | .str => ByteArray.empty
  | .list _ => []
  | .unit => ()
  | .pair a b => (dflt a, dflt b)
/-- The element at a place. -/
@[reducible, simp] def rdT : (t : Ty) → List t.den → Int → t.den
  | .int _, l, i => rd l i
  | .bool, l, i => List.getD l i.toNat false
  | .fnil, _, _ => ()
  | .str, l, i => List.getD l i.toNat ByteArray.empty
  | .list _, l, i => List.getD l i.toNat []
  | .unit, _, _ => ()
  | .pair a b, l, i => List.getD l i.toNat (dflt a, dflt b)
theorem rdT_get : ∀ (t : Ty) (l : List t.den) (i : Int), i.toNat < l.length → l[i.toNat]? = some (rdT t l i)
  | .int _, l, i, h => by simp only [rdT, rd, List.getD_eq_getElem?_getD, List.getElem?_eq_getElem h]; rfl
  | .bool, l, i, h => by simp only [rdT, List.getD_eq_getElem?_getD, List.getElem?_eq_getElem h]; rfl
  | .fnil, l, i, h => by rw [List.getElem?_eq_getElem h]
  | .str, l, i, h => by simp only [rdT, List.getD_eq_getElem?_getD, List.getElem?_eq_getElem h]; rfl
  | .list _, l, i, h => by simp only [rdT, List.getD_eq_getElem?_getD, List.getElem?_eq_getElem h]; rfl
  | .unit, l, i, h => by rw [List.getElem?_eq_getElem h]
  | .pair a b, l, i, h => by simp only [rdT, List.getD_eq_getElem?_getD, List.getElem?_eq_getElem h]; rfl
/-- The most elements of a slice. -/
abbrev most : Int := 274877906944
/-- The most elements of data that were handed over. -/
abbrev huge : Int := 140737488355328
/-- Typed values. val: by value (no struct). own: n elements of the object id, from element off on. pel: the address of an element. pcell: the address of a cell of a variable or struct. pv: an address of frozen cells. agg: a struct. -/
inductive V where
  | undef
  | val (t : Ty) (x : t.den)
  | nil (t : Ty)
  | own (id off n : Nat)
  | pel (id i : Nat)
  | pcell (id k : Nat)
  | mp (id : Nat)
  | pv (cs : List V)
  | agg (cs : List V)
  | tup (vs : List V)
  | fn (f : Nat) (caps : List V)
  | nilp
instance : Inhabited V := ⟨.undef⟩
@[reducible] def V.i (n : Int) : V := .val (.int .i64) n
@[reducible] def V.b (x : Bool) : V := .val .bool x
@[reducible] def V.s (x : ByteArray) : V := .val .str x
@[reducible] def V.il (l : List Int) : V := .val (.list (.int .i64)) l
@[reducible] def V.ill (l : List (List Int)) : V := .val (.list (.list (.int .i64))) l
/-- Objects. arr: elements of a slice, which are the object's own with all that they hold (u) or frozen; frz: a slice that is no more changed; vars: cells of variables; hole: own rows of which one is taken out (its cell shows v); gone: no more to be used. -/
inductive Obj where
  | arr (t : Ty) (l : List t.den) (u : Bool)
  | frz (t : Ty) (l : List t.den)
  | vars (vs : List V)
  | hole (t : Ty) (l : List (List t.den)) (i : Nat) (v : V)
  | mpt (t : Ty) (l : List (Int × t.den))
  | gone
/-- A map's value behind a key; whether there is one; a value put. -/
def getL (t : Ty) (l : List (Int × t.den)) (n : Int) : t.den := match l.find? fun p => p.1 == n with
  | some p => p.2
  | none => dflt t
def hasL (t : Ty) (l : List (Int × t.den)) (n : Int) : Bool := l.any fun p => p.1 == n
def setL (t : Ty) (n : Int) (x : t.den) : List (Int × t.den) → List (Int × t.den)
  | [] => [(n, x)]
  | p :: l => if p.1 = n then (n, x) :: l else p :: setL t n x l
/-- The cells of typed data, each as a value. -/
def cellsT : (t : Ty) → t.den → List V
  | .unit, _ => []
  | .pair a b, x => cellsT a x.1 ++ cellsT b x.2
  | t, x => [.val t x]
/-- Typed data as a value. -/
def ofT : (t : Ty) → t.den → V
  | .unit, _ => .agg []
  | .pair a b, x => .agg (cellsT (.pair a b) x)
  | t, x => .val t x
def V.cells : V → List V
  | .agg cs => cs
  | v => [v]
def zeroV : Ty → List V
  | .unit => []
  | .pair a b => zeroV a ++ zeroV b
  | .list t => [.nil t]
  | .int k => [.val (.int k) (0 : Int)]
  | .bool => [.val .bool false]
  | .fnil => [.val .fnil ()]
  | .str => [.val .str ByteArray.empty]
/-- Each with each. -/
def All2 {α β : Type} (R : α → β → Prop) : List α → List β → Prop
  | [], [] => True
  | x :: l, y :: m => R x y ∧ All2 R l m
  | _, _ => False
theorem All2.length {α β : Type} {R : α → β → Prop} : ∀ {l : List α} {m : List β}, All2 R l m → l.length = m.length
  | [], [], _ => rfl
  | x :: l, y :: m, h => by simp [All2.length h.2]
  | [], _ :: _, h => h.elim
  | _ :: _, [], h => h.elim
theorem All2.mono {α β : Type} {R S : α → β → Prop} : ∀ {l : List α} {m : List β}, (∀ x y, x ∈ l → y ∈ m → R x y → S x y) → All2 R l m → All2 S l m
  | [], [], _, _ => trivial
  | x :: l, y :: m, h, k => ⟨h x y (by simp) (by simp) k.1, All2.mono (fun a b ha hb => h a b (by simp [ha]) (by simp [hb])) k.2⟩
  | [], _ :: _, _, h => h.elim
  | _ :: _, [], _, h => h.elim
theorem All2.append {α β : Type} {R : α → β → Prop} : ∀ {l l' : List α} {m m' : List β}, All2 R l m → All2 R l' m' → All2 R (l ++ l') (m ++ m')
  | [], _, [], _, _, h => h
  | x :: l, _, y :: m, _, h, k => ⟨h.1, All2.append h.2 k⟩
  | [], _, _ :: _, _, h, _ => h.elim
  | _ :: _, _, [], _, h, _ => h.elim
theorem All2.get {α β : Type} {R : α → β → Prop} : ∀ {l : List α} {m : List β}, All2 R l m → ∀ {i : Nat} {x : α}, l[i]? = some x → ∃ y, m[i]? = some y ∧ R x y
  | [], [], _, i, x, hx => by simp at hx
  | x :: l, y :: m, h, 0, x', hx => by simp at hx; subst hx; exact ⟨y, rfl, h.1⟩
  | x :: l, y :: m, h, i + 1, x', hx => by simpa using All2.get h.2 (by simpa using hx)
  | [], _ :: _, h, _, _, _ => h.elim
  | _ :: _, [], h, _, _, _ => h.elim
theorem All2.take {α β : Type} {R : α → β → Prop} : ∀ (n : Nat) {l : List α} {m : List β}, All2 R l m → All2 R (l.take n) (m.take n)
  | 0, _, _, _ => by simp [All2]
  | n + 1, [], [], _ => by simp [All2]
  | n + 1, x :: l, y :: m, h => ⟨h.1, All2.take n h.2⟩
  | _, [], _ :: _, h => h.elim
  | _, _ :: _, [], h => h.elim
theorem All2.drop {α β : Type} {R : α → β → Prop} : ∀ (n : Nat) {l : List α} {m : List β}, All2 R l m → All2 R (l.drop n) (m.drop n)
  | 0, _, _, h => by simpa using h
  | n + 1, [], [], _ => by simp [All2]
  | n + 1, x :: l, y :: m, h => by simpa using All2.drop n h.2
  | _, [], _ :: _, h => h.elim
  | _, _ :: _, [], h => h.elim
theorem All2.set {α β : Type} {R : α → β → Prop} : ∀ (i : Nat) {l : List α} {m : List β}, All2 R l m → ∀ {x : α} {y : β}, R x y → All2 R (l.set i x) (m.set i y)
  | _, [], [], _, _, _, _ => by simp [All2]
  | 0, _ :: _, _ :: _, h, _, _, k => ⟨k, h.2⟩
  | i + 1, _ :: _, _ :: _, h, _, _, k => ⟨h.1, All2.set i h.2 k⟩
  | _, [], _ :: _, h, _, _, _ => h.elim
  | _, _ :: _, [], h, _, _, _ => h.elim
theorem All2.replicate {α β : Type} {R : α → β → Prop} {x : α} {y : β} (h : R x y) : ∀ n, All2 R (List.replicate n x) (List.replicate n y)
  | 0 => trivial
  | n + 1 => ⟨h, All2.replicate h n⟩
theorem All2.map_left {α β γ : Type} {R : α → β → Prop} (f : γ → α) : ∀ {l : List γ} {m : List β}, All2 R (l.map f) m ↔ All2 (fun x y => R (f x) y) l m
  | [], [] => Iff.rfl
  | x :: l, y :: m => and_congr Iff.rfl (All2.map_left f)
  | [], _ :: _ => Iff.rfl
  | _ :: _, [] => Iff.rfl
theorem All2.map_right {α β γ : Type} {R : α → β → Prop} (f : γ → β) : ∀ {l : List α} {m : List γ}, All2 R l (m.map f) ↔ All2 (fun x y => R x (f y)) l m
  | [], [] => Iff.rfl
  | x :: l, y :: m => and_congr Iff.rfl (All2.map_right f)
  | [], _ :: _ => Iff.rfl
  | _ :: _, [] => Iff.rfl
/-- The object of a slice. -/
def inG (G : Nat → Nat → Prop) : AV → Prop
  | .sl s j _ _ n => n ≠ 0 → G s j
  | _ => True
/-- The cells show the data; objects only out of G. -/
def Sh (G : Nat → Nat → Prop) (H : Heap) : (t : Ty) → t.den → List AV → Prop
  | .int k, n, cs => cs = [.int k n]
  | .bool, b, cs => cs = [.bool b]
  | .fnil, _, cs => cs = [.nilf]
  | .str, s, cs => cs = [.str s]
  | .unit, _, cs => cs = []
  | .pair a b, x, cs => ∃ c1 c2, cs = c1 ++ c2 ∧ Sh G H a x.1 c1 ∧ Sh G H b x.2 c2
  | .list t, l, cs => ∃ a chunks, cs = [a] ∧ isSl a = true ∧ lenA a = some l.length ∧ rowA H t.z a = some chunks.flatten ∧ inG G a ∧ (l.length : Int) ≤ huge ∧ All2 (fun x c => Sh G H t x c) l chunks
theorem Sh.length {G : Nat → Nat → Prop} {H : Heap} : ∀ {t : Ty} {x : t.den} {cs : List AV}, Sh G H t x cs → cs.length = t.z
  | .int k, _, _, h => by simp only [Sh] at h; subst h; rfl
  | .bool, _, _, h => by simp only [Sh] at h; subst h; rfl
  | .fnil, _, _, h => by simp only [Sh] at h; subst h; rfl
  | .str, _, _, h => by simp only [Sh] at h; subst h; rfl
  | .unit, _, _, h => by simp only [Sh] at h; subst h; rfl
  | .pair a b, _, _, h => by
    obtain ⟨c1, c2, rfl, h1, h2⟩ := h
    simp [Ty.z, Sh.length h1, Sh.length h2]
  | .list t, _, _, h => by obtain ⟨a, _, rfl, _⟩ := h; rfl
/-- What is kept while frozen objects are. -/
def Keep (G : Nat → Nat → Prop) (H : Heap) (G' : Nat → Nat → Prop) (H' : Heap) : Prop := ∀ s j, G s j → G' s j ∧ H'.ob s j = H.ob s j
theorem inG_mono {G G' : Nat → Nat → Prop} (h : ∀ s j, G s j → G' s j) {a : AV} (ha : inG G a) : inG G' a := by
  cases a <;> simp only [inG] at ha ⊢
  exact fun e => h _ _ (ha e)
theorem rowA_keep {G G' : Nat → Nat → Prop} {H H' : Heap} (h : Keep G H G' H') {z : Nat} {a : AV} {cs : List AV} (ha : inG G a) (hr : rowA H z a = some cs) : rowA H' z a = some cs := by
  cases a <;> simp only [rowA] at hr ⊢ <;> try exact hr
  rename_i s j g off n
  by_cases hn : n = 0
  · simpa [hn] using hr
  · simp only [hn, if_false] at hr ⊢
    rw [(h s j (ha hn)).2]; exact hr
theorem Sh.keep {G G' : Nat → Nat → Prop} {H H' : Heap} (h : Keep G H G' H') : ∀ {t : Ty} {x : t.den} {cs : List AV}, Sh G H t x cs → Sh G' H' t x cs
  | .int _, _, _, k => by simpa only [Sh] using k
  | .bool, _, _, k => by simpa only [Sh] using k
  | .fnil, _, _, k => by simpa only [Sh] using k
  | .str, _, _, k => by simpa only [Sh] using k
  | .unit, _, _, k => by simpa only [Sh] using k
  | .pair a b, _, _, k => by
    obtain ⟨c1, c2, e, h1, h2⟩ := k
    exact ⟨c1, c2, e, Sh.keep h h1, Sh.keep h h2⟩
  | .list t, _, _, k => by
    obtain ⟨a, ch, e, h1, h2, h3, h4, h5, h6⟩ := k
    exact ⟨a, ch, e, h1, h2, rowA_keep h h4 h3, inG_mono (fun s j g => (h s j g).1) h4, h5, h6.mono fun x c _ _ => Sh.keep h⟩
/-- The cells show the data, each slice a whole object of its own; O: these objects. -/
def Ow (H : Heap) : (t : Ty) → t.den → List AV → List (Nat × Nat) → Prop
  | .int k, n, cs, O => cs = [.int k n] ∧ O = []
  | .bool, b, cs, O => cs = [.bool b] ∧ O = []
  | .fnil, _, cs, O => cs = [.nilf] ∧ O = []
  | .str, s, cs, O => cs = [.str s] ∧ O = []
  | .unit, _, cs, O => cs = [] ∧ O = []
  | .pair a b, x, cs, O => ∃ c1 c2 O1 O2, cs = c1 ++ c2 ∧ O = O1 ++ O2 ∧ Ow H a x.1 c1 O1 ∧ Ow H b x.2 c2 O2
  | .list t, l, cs, O => (cs = [.nil] ∧ l = [] ∧ O = []) ∨ ∃ s j g, ∃ parts : List (List AV × List (Nat × Nat)), cs = [.sl s j g 0 l.length] ∧ H.ob s j = some ⟨g, t.z, (parts.map (·.1)).flatten⟩ ∧ O = (s, j) :: (parts.map (·.2)).flatten ∧ (l.length : Int) ≤ most ∧ All2 (fun x p => Ow H t x p.1 p.2) l parts
theorem flatten_length {α : Type} {z : Nat} : ∀ {l : List (List α)}, (∀ c ∈ l, c.length = z) → l.flatten.length = l.length * z
  | [], _ => by simp
  | c :: l, h => by
    simp only [List.flatten_cons, List.length_append, List.length_cons, Nat.succ_mul]
    rw [flatten_length (fun d hd => h d (by simp [hd])), h c (by simp)]
    omega
theorem Ow.sh {H : Heap} : ∀ {t : Ty} {x : t.den} {cs : List AV} {O : List (Nat × Nat)}, Ow H t x cs O → ∀ {G : Nat → Nat → Prop}, (∀ p ∈ O, G p.1 p.2) → Sh G H t x cs
  | .int k, _, _, _, h, _, _ => h.1
  | .bool, _, _, _, h, _, _ => h.1
  | .fnil, _, _, _, h, _, _ => h.1
  | .str, _, _, _, h, _, _ => h.1
  | .unit, _, _, _, h, _, _ => h.1
  | .pair a b, _, _, _, h, G, hG => by
    obtain ⟨c1, c2, O1, O2, e, rfl, h1, h2⟩ := h
    exact ⟨c1, c2, e, Ow.sh h1 fun p hp => hG p (by simp [hp]), Ow.sh h2 fun p hp => hG p (by simp [hp])⟩
  | .list t, l, _, _, h, G, hG => by
    rcases h with ⟨rfl, rfl, rfl⟩ | ⟨s, j, g, parts, rfl, ho, rfl, hl, h⟩
    · exact ⟨.nil, [], rfl, rfl, rfl, rfl, trivial, by simp [most], trivial⟩
    · have hsh : All2 (fun x c => Sh G H t x c) l (parts.map (·.1)) := by
        refine All2.map_right _ |>.2 (h.mono fun x p _ hp k => Ow.sh k fun q hq => hG q ?_)
        simp only [List.mem_cons, List.mem_flatten, List.mem_map]
        exact .inr ⟨p.2, ⟨p, hp, rfl⟩, hq⟩
      have hlen : ((parts.map (·.1)).flatten).length = l.length * t.z := by
        have e := hsh.length
        rw [e]
        refine flatten_length fun c hc => ?_
        obtain ⟨i, hi⟩ := List.mem_iff_getElem?.1 hc
        have hi2 : i < l.length := by rw [e]; exact (List.getElem?_eq_some_iff.1 hi).1
        obtain ⟨y, hy, hs⟩ := hsh.get (List.getElem?_eq_getElem hi2)
        rw [hi] at hy
        injection hy with hy
        subst hy
        exact hs.length
      refine ⟨_, parts.map (·.1), rfl, rfl, rfl, ?_, fun _ => hG (s, j) (by simp), by simp only [most, huge] at *; omega, hsh⟩
      simp only [rowA, ho]
      split
      · rename_i e
        have : (parts.map (·.1)).flatten = [] := List.length_eq_zero_iff.1 (by rw [hlen, e]; simp)
        rw [this]
      · rw [if_pos ⟨trivial, trivial, by rw [hlen]; omega⟩]
        simp only [Option.some.injEq, List.drop_zero]
        exact List.take_of_length_le (by rw [hlen]; exact Nat.le_refl _)
theorem Ow.keep {H H' : Heap} : ∀ {t : Ty} {x : t.den} {cs : List AV} {O : List (Nat × Nat)}, Ow H t x cs O → (∀ p ∈ O, H'.ob p.1 p.2 = H.ob p.1 p.2) → Ow H' t x cs O
  | .int k, _, _, _, h, _ => h
  | .bool, _, _, _, h, _ => h
  | .fnil, _, _, _, h, _ => h
  | .str, _, _, _, h, _ => h
  | .unit, _, _, _, h, _ => h
  | .pair a b, _, _, _, h, hG => by
    obtain ⟨c1, c2, O1, O2, e, rfl, h1, h2⟩ := h
    exact ⟨c1, c2, O1, O2, e, rfl, Ow.keep h1 fun p hp => hG p (by simp [hp]), Ow.keep h2 fun p hp => hG p (by simp [hp])⟩
  | .list t, l, _, _, h, hG => by
    rcases h with h | ⟨s, j, g, parts, rfl, ho, rfl, hl, h⟩
    · exact .inl h
    · refine .inr ⟨s, j, g, parts, rfl, by rw [hG (s, j) (by simp)]; exact ho, rfl, hl, h.mono fun x p _ hp k => Ow.keep k fun q hq => hG q ?_⟩
      simp only [List.mem_cons, List.mem_flatten, List.mem_map]
      exact .inr ⟨p.2, ⟨p, hp, rfl⟩, hq⟩
theorem Ow.length {H : Heap} {t : Ty} {x : t.den} {cs : List AV} {O : List (Nat × Nat)} (h : Ow H t x cs O) : cs.length = t.z :=
  (h.sh (G := fun _ _ => True) fun _ _ => trivial).length
/-- Flat data have no objects. -/
theorem Sh.ow {G : Nat → Nat → Prop} {H H' : Heap} : ∀ {t : Ty} {x : t.den} {cs : List AV}, t.flat = true → Sh G H t x cs → Ow H' t x cs []
  | .int k, _, _, _, h => ⟨h, rfl⟩
  | .bool, _, _, _, h => ⟨h, rfl⟩
  | .fnil, _, _, _, h => ⟨h, rfl⟩
  | .str, _, _, _, h => ⟨h, rfl⟩
  | .unit, _, _, _, h => ⟨h, rfl⟩
  | .pair a b, _, _, hf, h => by
    simp only [Ty.flat, Bool.and_eq_true] at hf
    obtain ⟨c1, c2, e, h1, h2⟩ := h
    exact ⟨c1, c2, [], [], e, rfl, Sh.ow hf.1 h1, Sh.ow hf.2 h2⟩
  | .list t, _, _, hf, _ => by simp [Ty.flat] at hf
theorem Ow.flat {H : Heap} : ∀ {t : Ty} {x : t.den} {cs : List AV} {O : List (Nat × Nat)}, t.flat = true → Ow H t x cs O → O = []
  | .int k, _, _, _, _, h => h.2
  | .bool, _, _, _, _, h => h.2
  | .fnil, _, _, _, _, h => h.2
  | .str, _, _, _, _, h => h.2
  | .unit, _, _, _, _, h => h.2
  | .pair a b, _, _, _, hf, h => by
    simp only [Ty.flat, Bool.and_eq_true] at hf
    obtain ⟨c1, c2, O1, O2, e, rfl, h1, h2⟩ := h
    rw [Ow.flat hf.1 h1, Ow.flat hf.2 h2]; rfl
  | .list t, _, _, _, hf, _ => by simp [Ty.flat] at hf
/-- Flat data as cells. -/
def encC : (t : Ty) → t.den → List AV
  | .int k, n => [.int k n]
  | .bool, b => [.bool b]
  | .fnil, _ => [.nilf]
  | .str, s => [.str s]
  | .unit, _ => []
  | .pair a b, x => encC a x.1 ++ encC b x.2
  | .list _, _ => []
theorem Sh.enc {G : Nat → Nat → Prop} {H : Heap} : ∀ {t : Ty} {x : t.den} {cs : List AV}, t.flat = true → Sh G H t x cs → cs = encC t x
  | .int k, _, _, _, h => h
  | .bool, _, _, _, h => h
  | .fnil, _, _, _, h => h
  | .str, _, _, _, h => h
  | .unit, _, _, _, h => h
  | .pair a b, _, _, hf, h => by
    simp only [Ty.flat, Bool.and_eq_true] at hf
    obtain ⟨c1, c2, rfl, h1, h2⟩ := h
    rw [Sh.enc hf.1 h1, Sh.enc hf.2 h2]; rfl
  | .list t, _, _, hf, _ => by simp [Ty.flat] at hf
theorem enc_sh (G : Nat → Nat → Prop) (H : Heap) : ∀ {t : Ty} (x : t.den), t.flat = true → Sh G H t x (encC t x)
  | .int k, _, _ => rfl
  | .bool, _, _ => rfl
  | .fnil, _, _ => rfl
  | .str, _, _ => rfl
  | .unit, _, _ => rfl
  | .pair a b, x, hf => by
    simp only [Ty.flat, Bool.and_eq_true] at hf
    exact ⟨_, _, rfl, enc_sh G H x.1 hf.1, enc_sh G H x.2 hf.2⟩
  | .list t, _, hf => by simp [Ty.flat] at hf
end Go.Proofs.YtffiddkignmobaaDoorTv
end
section
/- TV, part B: the state of the model behind typed values and objects; what steps keep. -/
namespace Go.Proofs.YtffiddkignmobaaDoorTv
open Go.Proofs.YtffiddkignmobaaDoorVe
/-- F: whose an object is (some 0: frozen; some (k + 1): the object k's); ι: where an object lies. -/
structure MS where
  F : Nat → Nat → Option Nat
  H : Heap
  ι : Nat → Nat × Nat
def MS.fz (m : MS) : Nat → Nat → Prop := fun s j => m.F s j = some 0
def MS.at (m : MS) (id : Nat) : Option Ob := m.H.ob (m.ι id).1 (m.ι id).2
/-- What an object is: a slice of elements, or cells. -/
def Obj.kind : Obj → Option (Option Ty)
  | .arr t _ _ => some (some t)
  | .frz t _ => some (some t)
  | .vars _ => some none
  | .hole t _ _ _ => some (some (.list t))
  | .mpt _ _ => some (some .unit)
  | .gone => none
def kind (σ : List Obj) (id : Nat) : Option (Option Ty) := (σ[id]?).bind Obj.kind
mutual
inductive VT (m : MS) (σ : List Obj) : V → AV → Prop
  | undef (a : AV) : VT m σ .undef a
  | val (t : Ty) (x : t.den) (a : AV) : Sh m.fz m.H t x [a] → VT m σ (.val t x) a
  | nil (t : Ty) : VT m σ (.nil t) .nil
  | own (id off n : Nat) (a : AV) : id < σ.length → (∀ t, kind σ id = some (some t) → ∃ o, m.at id = some o ∧ a = .sl (m.ι id).1 (m.ι id).2 o.g (off * t.z) n) → VT m σ (.own id off n) a
  | pel (id i : Nat) (a : AV) : id < σ.length → (∀ t, kind σ id = some (some t) → ∃ o, m.at id = some o ∧ a = .ptr (m.ι id).1 (m.ι id).2 o.g (i * t.z)) → VT m σ (.pel id i) a
  | pcell (id k : Nat) (a : AV) : id < σ.length → (kind σ id = some none → ∃ o, m.at id = some o ∧ a = .ptr (m.ι id).1 (m.ι id).2 o.g k) → VT m σ (.pcell id k) a
  | mp (id : Nat) (a : AV) : id < σ.length → (kind σ id = some (some .unit) → ∃ o, m.at id = some o ∧ a = .mp (m.ι id).1 (m.ι id).2 o.g) → VT m σ (.mp id) a
  | pv (cs : List V) (a : AV) (as : List AV) : loadA m.H cs.length a = some as → (∀ s j g off, a = .ptr s j g off → m.fz s j) → VTL m σ cs as → VT m σ (.pv cs) a
  | agg (cs : List V) (as : List AV) : VTL m σ cs as → VT m σ (.agg cs) (.agg as)
  | tup (cs : List V) (as : List AV) : VTL m σ cs as → VT m σ (.tup cs) (.tup as)
  | fn (f : Nat) (cs : List V) (as : List AV) : VTL m σ cs as → VT m σ (.fn f cs) (.fn f as)
  | nilp : VT m σ .nilp .nilp
inductive VTL (m : MS) (σ : List Obj) : List V → List AV → Prop
  | nil : VTL m σ [] []
  | cons (v : V) (a : AV) (vs : List V) (as : List AV) : VT m σ v a → VTL m σ vs as → VTL m σ (v :: vs) (a :: as)
end
/-- Own rows but for one. -/
structure HoleP (m : MS) (id : Nat) (t : Ty) (l : List (List t.den)) (i g : Nat) (parts : List (List AV × List (Nat × Nat))) (c : AV) : Prop where
  at' : m.at id = some ⟨g, 1, (parts.map (·.1)).flatten⟩
  own : m.F (m.ι id).1 (m.ι id).2 = some (id + 1)
  most' : (l.length : Int) ≤ most
  len : parts.length = l.length
  row : ∀ (j : Nat) (x : List t.den) (p : List AV × List (Nat × Nat)), l[j]? = some x → parts[j]? = some p → j ≠ i → Ow m.H (.list t) x p.1 p.2
  hol : parts[i]? = some ([c], [])
  nd : (m.ι id :: (parts.map (·.2)).flatten).Nodup
  foot : ∀ p ∈ (parts.map (·.2)).flatten, m.F p.1 p.2 = some (id + 1)
theorem part_mem {parts : List (List AV × List (Nat × Nat))} {j : Nat} {p : List AV × List (Nat × Nat)} (h : parts[j]? = some p) {q : Nat × Nat} (hq : q ∈ p.2) : q ∈ (parts.map (·.2)).flatten := by
  simp only [List.mem_flatten, List.mem_map]
  exact ⟨p.2, ⟨p, List.mem_of_getElem? h, rfl⟩, hq⟩
theorem HoleP.move {m m' : MS} {id id' : Nat} {t : Ty} {l : List (List t.den)} {i g : Nat} {parts : List (List AV × List (Nat × Nat))} {c : AV} (h : HoleP m id t l i g parts c) (hι : m'.ι id' = m.ι id) (hF : ∀ s j, m.F s j = some (id + 1) → m'.F s j = some (id' + 1) ∧ m'.H.ob s j = m.H.ob s j) : HoleP m' id' t l i g parts c where
  at' := by unfold MS.at; rw [hι, (hF _ _ h.own).2]; exact h.at'
  own := by rw [hι]; exact (hF _ _ h.own).1
  most' := h.most'
  len := h.len
  row := fun j x p h1 h2 h3 => (h.row j x p h1 h2 h3).keep fun q hq => (hF _ _ (h.foot q (part_mem h2 hq))).2
  hol := h.hol
  nd := by rw [hι]; exact h.nd
  foot := fun p hp => (hF _ _ (h.foot p hp)).1
/-- A map's cells show its entries. -/
def Me (G : Nat → Nat → Prop) (H : Heap) (t : Ty) : List (Int × t.den) → List AV → Prop
  | [], cs => cs = []
  | p :: l, cs => ∃ a cs', cs = .int .i64 p.1 :: a :: cs' ∧ Sh G H t p.2 [a] ∧ a.isCell = true ∧ Me G H t l cs'
theorem Me.keep {G G' : Nat → Nat → Prop} {H H' : Heap} (h : Keep G H G' H') {t : Ty} : ∀ {l : List (Int × t.den)} {cs : List AV}, Me G H t l cs → Me G' H' t l cs
  | [], _, k => k
  | _ :: _, _, ⟨a, cs', e, h1, h2, h3⟩ => ⟨a, cs', e, h1.keep h, h2, Me.keep h h3⟩
def OT (m : MS) (σ : List Obj) (id : Nat) : Obj → Prop
  | .arr t l true => ∃ o O, m.at id = some o ∧ Ow m.H (.list t) l [.sl (m.ι id).1 (m.ι id).2 o.g 0 l.length] O ∧ O.Nodup ∧ ∀ p ∈ O, m.F p.1 p.2 = some (id + 1)
  | .arr t l false => ∃ g chunks, m.at id = some ⟨g, t.z, chunks.flatten⟩ ∧ m.F (m.ι id).1 (m.ι id).2 = some (id + 1) ∧ (l.length : Int) ≤ most ∧ All2 (fun x c => Sh m.fz m.H t x c) l chunks
  | .frz t l => ∃ g chunks, m.at id = some ⟨g, t.z, chunks.flatten⟩ ∧ m.F (m.ι id).1 (m.ι id).2 = some 0 ∧ (l.length : Int) ≤ most ∧ All2 (fun x c => Sh m.fz m.H t x c) l chunks
  | .vars vs => ∃ (g : Nat) (z : {z : Nat // z = 0}) (as : List AV), m.at id = some ⟨g, z, as⟩ ∧ m.F (m.ι id).1 (m.ι id).2 = some (id + 1) ∧ VTL m σ vs as
  | .hole t l i v => ∃ g parts c, HoleP m id t l i g parts c ∧ VT m σ v c
  | .mpt t l => ∃ g as, m.at id = some ⟨g, MZ, as⟩ ∧ m.F (m.ι id).1 (m.ι id).2 = some (id + 1) ∧ Me m.fz m.H t l as
  | .gone => True
structure St (m : MS) (σ : List Obj) : Prop where
  obj : ∀ id o, σ[id]? = some o → OT m σ id o
  dom : ∀ s j k, m.F s j = some k → ∃ o, m.H.ob s j = some o
/-- What values need, to hold on. -/
structure Kp (m : MS) (σ : List Obj) (m' : MS) (σ' : List Obj) : Prop where
  fz : Keep m.fz m.H m'.fz m'.H
  len : σ.length ≤ σ'.length
  live : ∀ id κ, id < σ.length → kind σ' id = some κ → kind σ id = some κ ∧ m'.ι id = m.ι id ∧ ∀ o, m.at id = some o → ∃ o', m'.at id = some o' ∧ o'.g = o.g
theorem Kp.refl (m : MS) (σ : List Obj) : Kp m σ m σ := ⟨fun _ _ h => ⟨h, rfl⟩, Nat.le_refl _, fun _ _ _ h => ⟨h, rfl, fun o ho => ⟨o, ho, rfl⟩⟩⟩
theorem Kp.trans {m m' m2 : MS} {σ σ' σ2 : List Obj} (h : Kp m σ m' σ') (k : Kp m' σ' m2 σ2) : Kp m σ m2 σ2 where
  fz := fun s j g => ⟨(k.fz s j (h.fz s j g).1).1, (k.fz s j (h.fz s j g).1).2.trans (h.fz s j g).2⟩
  len := Nat.le_trans h.len k.len
  live := fun id κ hid hk => by
    obtain ⟨a1, a2, a3⟩ := k.live id κ (Nat.lt_of_lt_of_le hid h.len) hk
    obtain ⟨b1, b2, b3⟩ := h.live id κ hid a1
    refine ⟨b1, a2.trans b2, fun o ho => ?_⟩
    obtain ⟨o1, c1, c2⟩ := b3 o ho
    obtain ⟨o2, d1, d2⟩ := a3 o1 c1
    exact ⟨o2, d1, d2.trans c2⟩
theorem loadA_keep {G G' : Nat → Nat → Prop} {H H' : Heap} (h : Keep G H G' H') {n : Nat} {a : AV} (ha : ∀ s j g off, a = .ptr s j g off → G s j) {cs : List AV} (hl : loadA H n a = some cs) : loadA H' n a = some cs := by
  cases a <;> simp only [loadA] at hl ⊢ <;> try exact hl
  rename_i s j g off
  rw [(h s j (ha s j g off rfl)).2]; exact hl
mutual
theorem VT.keep {m m' : MS} {σ σ' : List Obj} (h : Kp m σ m' σ') : ∀ {v : V} {a : AV}, VT m σ v a → VT m' σ' v a
  | _, _, .undef a => .undef a
  | _, _, .val t x a k => .val t x a (k.keep h.fz)
  | _, _, .nil t => .nil t
  | _, _, .own id off n a h1 h2 => .own id off n a (Nat.lt_of_lt_of_le h1 h.len) fun t ht => by
    obtain ⟨b1, b2, b3⟩ := h.live id _ h1 ht
    obtain ⟨o, c1, c2⟩ := h2 t b1
    obtain ⟨o', d1, d2⟩ := b3 o c1
    exact ⟨o', d1, by rw [b2, d2]; exact c2⟩
  | _, _, .pel id i a h1 h2 => .pel id i a (Nat.lt_of_lt_of_le h1 h.len) fun t ht => by
    obtain ⟨b1, b2, b3⟩ := h.live id _ h1 ht
    obtain ⟨o, c1, c2⟩ := h2 t b1
    obtain ⟨o', d1, d2⟩ := b3 o c1
    exact ⟨o', d1, by rw [b2, d2]; exact c2⟩
  | _, _, .pcell id k a h1 h2 => .pcell id k a (Nat.lt_of_lt_of_le h1 h.len) fun ht => by
    obtain ⟨b1, b2, b3⟩ := h.live id _ h1 ht
    obtain ⟨o, c1, c2⟩ := h2 b1
    obtain ⟨o', d1, d2⟩ := b3 o c1
    exact ⟨o', d1, by rw [b2, d2]; exact c2⟩
  | _, _, .mp id a h1 h2 => .mp id a (Nat.lt_of_lt_of_le h1 h.len) fun ht => by
    obtain ⟨b1, b2, b3⟩ := h.live id _ h1 ht
    obtain ⟨o, c1, c2⟩ := h2 b1
    obtain ⟨o', d1, d2⟩ := b3 o c1
    exact ⟨o', d1, by rw [b2, d2]; exact c2⟩
  | _, _, .pv cs a as h1 h2 h3 => .pv cs a as (loadA_keep h.fz h2 h1) (fun s j g off e => (h.fz s j (h2 s j g off e)).1) (VTL.keep h h3)
  | _, _, .agg cs as k => .agg cs as (VTL.keep h k)
  | _, _, .tup cs as k => .tup cs as (VTL.keep h k)
  | _, _, .fn f cs as k => .fn f cs as (VTL.keep h k)
  | _, _, .nilp => .nilp
theorem VTL.keep {m m' : MS} {σ σ' : List Obj} (h : Kp m σ m' σ') : ∀ {v : List V} {a : List AV}, VTL m σ v a → VTL m' σ' v a
  | _, _, .nil => .nil
  | _, _, .cons v a vs as k1 k2 => .cons v a vs as (VT.keep h k1) (VTL.keep h k2)
end
theorem VTL.length {m : MS} {σ : List Obj} : ∀ {v : List V} {a : List AV}, VTL m σ v a → v.length = a.length
  | _, _, .nil => rfl
  | _, _, .cons _ _ _ _ _ k2 => by simp [VTL.length k2]
theorem VTL.append {m : MS} {σ : List Obj} : ∀ {v v' : List V} {a a' : List AV}, VTL m σ v a → VTL m σ v' a' → VTL m σ (v ++ v') (a ++ a')
  | _, _, _, _, .nil, h => h
  | _, _, _, _, .cons _ _ _ _ k1 k2, h => .cons _ _ _ _ k1 (VTL.append k2 h)
theorem VTL.get {m : MS} {σ : List Obj} : ∀ {v : List V} {a : List AV}, VTL m σ v a → ∀ {i : Nat} {x : V}, v[i]? = some x → ∃ y, a[i]? = some y ∧ VT m σ x y
  | _, _, .nil, i, x, h => by simp at h
  | _, _, .cons _ _ _ _ k1 _, 0, x, h => by simp at h; subst h; exact ⟨_, rfl, k1⟩
  | _, _, .cons _ _ _ _ _ k2, i + 1, x, h => by simpa using VTL.get k2 (by simpa using h)
theorem VTL.take {m : MS} {σ : List Obj} : ∀ (n : Nat) {v : List V} {a : List AV}, VTL m σ v a → VTL m σ (v.take n) (a.take n)
  | 0, _, _, _ => by simpa using VTL.nil
  | n + 1, _, _, .nil => by simpa using VTL.nil
  | n + 1, _, _, .cons _ _ _ _ k1 k2 => .cons _ _ _ _ k1 (VTL.take n k2)
theorem VTL.drop {m : MS} {σ : List Obj} : ∀ (n : Nat) {v : List V} {a : List AV}, VTL m σ v a → VTL m σ (v.drop n) (a.drop n)
  | 0, _, _, h => by simpa using h
  | n + 1, _, _, .nil => by simpa using VTL.nil
  | n + 1, _, _, .cons _ _ _ _ _ k2 => by simpa using VTL.drop n k2
/-- One object as it was. -/
theorem OT.keep {m m' : MS} {σ σ' : List Obj} (h : Kp m σ m' σ') {id : Nat} {o : Obj} (hι : m'.ι id = m.ι id) (hF : ∀ s j, m.F s j = some (id + 1) → m'.F s j = some (id + 1) ∧ m'.H.ob s j = m.H.ob s j) (ho : OT m σ id o) : OT m' σ' id o := by
  have hat : m.F (m.ι id).1 (m.ι id).2 = some (id + 1) → m'.at id = m.at id := fun e => by
    unfold MS.at; rw [hι]; exact (hF _ _ e).2
  cases o with
  | gone => trivial
  | mpt t l =>
    obtain ⟨g, as, h1, h2, h3⟩ := ho
    exact ⟨g, as, (hat h2).trans h1, by rw [hι]; exact (hF _ _ h2).1, h3.keep h.fz⟩
  | hole t l i v =>
    obtain ⟨g, parts, c, h1, h2⟩ := ho
    exact ⟨g, parts, c, h1.move hι hF, h2.keep h⟩
  | vars vs =>
    obtain ⟨g, z, as, h1, h2, h3⟩ := ho
    exact ⟨g, z, as, (hat h2).trans h1, by rw [hι]; exact (hF _ _ h2).1, h3.keep h⟩
  | frz t l =>
    obtain ⟨g, ch, h1, h2, h3, h4⟩ := ho
    have hk := h.fz _ _ h2
    exact ⟨g, ch, by unfold MS.at; rw [hι, hk.2]; exact h1, by rw [hι]; exact hk.1, h3, h4.mono fun x c _ _ k => k.keep h.fz⟩
  | arr t l u =>
    cases u with
    | false =>
      obtain ⟨g, ch, h1, h2, h3, h4⟩ := ho
      exact ⟨g, ch, (hat h2).trans h1, by rw [hι]; exact (hF _ _ h2).1, h3, h4.mono fun x c _ _ k => k.keep h.fz⟩
    | true =>
      obtain ⟨o, O, h1, h2, h3, h4⟩ := ho
      have hm : m.F (m.ι id).1 (m.ι id).2 = some (id + 1) := by
        rcases h2 with ⟨e, _⟩ | ⟨s, j, g, parts, e, _, rfl, _⟩
        · simp at e
        · simp only [List.cons.injEq, AV.sl.injEq, and_true, true_and] at e
          have := h4 (s, j) (by simp)
          rw [e.1, e.2.1]; exact this
      refine ⟨o, O, (hat hm).trans h1, ?_, h3, fun p hp => (hF _ _ (h4 p hp)).1⟩
      rw [hι]
      exact h2.keep fun p hp => (hF _ _ (h4 p hp)).2
/-- Nothing but what is owned is changed; s: the slot of what is new. -/
def Fr (m m' : MS) (s : Nat) : Prop := ∀ t j, t ≠ s → (∀ k, m.F t j ≠ some (k + 1)) → m'.H.ob t j = m.H.ob t j ∧ m'.F t j = m.F t j
theorem Fr.refl (m : MS) (s : Nat) : Fr m m s := fun _ _ _ _ => ⟨rfl, rfl⟩
/-- A step of the model. -/
structure Step (m : MS) (σ : List Obj) (s : Nat) (v : V) (a : AV) (m' : MS) (σ' : List Obj) : Prop where
  st : St m' σ'
  kp : Kp m σ m' σ'
  fr : Fr m m' s
  vt : VT m' σ' v a
theorem Step.same {m : MS} {σ : List Obj} {s : Nat} {v : V} {a : AV} (h : St m σ) (hv : VT m σ v a) : Step m σ s v a m σ := ⟨h, Kp.refl m σ, Fr.refl m s, hv⟩
/-- The cells of typed data. -/
theorem Sh.cells {m : MS} {σ : List Obj} : ∀ {t : Ty} {x : t.den} {cs : List AV}, Sh m.fz m.H t x cs → VTL m σ (cellsT t x) cs
  | .int k, n, cs, h => by
    have e : cs = [.int k n] := h
    subst e; exact .cons _ _ _ _ (.val (.int k) n _ rfl) .nil
  | .bool, n, cs, h => by
    have e : cs = [.bool n] := h
    subst e; exact .cons _ _ _ _ (.val .bool n _ rfl) .nil
  | .fnil, n, cs, h => by
    have e : cs = [.nilf] := h
    subst e; exact .cons _ _ _ _ (.val .fnil () _ rfl) .nil
  | .str, n, cs, h => by
    have e : cs = [.str n] := h
    subst e; exact .cons _ _ _ _ (.val .str n _ rfl) .nil
  | .unit, _, cs, h => by
    have e : cs = [] := h
    subst e; exact .nil
  | .pair a b, x, cs, h => by
    obtain ⟨c1, c2, rfl, h1, h2⟩ := h
    exact (Sh.cells h1).append (Sh.cells h2)
  | .list t, x, cs, h => by
    have h' := h
    obtain ⟨a, _, rfl, _⟩ := h
    exact .cons _ _ _ _ (.val (.list t) x _ h') .nil
theorem cellsT_length : ∀ (t : Ty) (x : t.den), (cellsT t x).length = t.z
  | .int _, _ => rfl
  | .bool, _ => rfl
  | .fnil, _ => rfl
  | .str, _ => rfl
  | .list _, _ => rfl
  | .unit, _ => rfl
  | .pair a b, x => by simp [cellsT, Ty.z, cellsT_length a, cellsT_length b]
/-- Typed data as one value. -/
def recA (t : Ty) (cs : List AV) (a : AV) : Prop := if t.isRec = true then a = .agg cs else cs = [a]
theorem Sh.ofT {m : MS} {σ : List Obj} : ∀ {t : Ty} {x : t.den} {cs : List AV} {a : AV}, Sh m.fz m.H t x cs → recA t cs a → VT m σ (ofT t x) a
  | .int k, n, cs, a, h, hr => by
    have e : cs = [a] := hr
    subst e; exact .val (.int k) n _ h
  | .bool, n, cs, a, h, hr => by
    have e : cs = [a] := hr
    subst e; exact .val .bool n _ h
  | .fnil, n, cs, a, h, hr => by
    have e : cs = [a] := hr
    subst e; exact .val .fnil () _ h
  | .str, n, cs, a, h, hr => by
    have e : cs = [a] := hr
    subst e; exact .val .str n _ h
  | .list t, n, cs, a, h, hr => by
    have e : cs = [a] := hr
    subst e; exact .val (.list t) n _ h
  | .unit, _, cs, a, h, hr => by
    have e : a = .agg cs := hr
    have e2 : cs = [] := h
    subst e; subst e2; exact .agg _ _ .nil
  | .pair p q, x, cs, a, h, hr => by
    have e : a = .agg cs := hr
    subst e; exact .agg _ _ h.cells
/-- Typed data out of cells. -/
def elC : (t : Ty) → List V → (t.den → List V → Prop) → Prop
  | .unit, cs, k => k () cs
  | .pair a b, cs, k => elC a cs fun x r => elC b r fun y r' => k (x, y) r'
  | t, cs, k => match cs with
    | c :: r => ∃ x, c = .val t x ∧ k x r
    | [] => False
theorem elC_sound {m : MS} {σ : List Obj} : ∀ {t : Ty} {cs : List V} {as : List AV} {k : t.den → List V → Prop}, elC t cs k → VTL m σ cs as → ∃ x as1 as2 r, as = as1 ++ as2 ∧ Sh m.fz m.H t x as1 ∧ VTL m σ r as2 ∧ k x r
  | .unit, cs, as, k, h, hv => ⟨(), [], as, cs, rfl, rfl, hv, h⟩
  | .pair a b, cs, as, k, h, hv => by
    obtain ⟨x, a1, a2, r, rfl, h1, h2, h3⟩ := elC_sound (t := a) (k := fun x r => elC b r fun y r' => k (x, y) r') h hv
    obtain ⟨y, b1, b2, r', rfl, k1, k2, k3⟩ := elC_sound (t := b) h3 h2
    exact ⟨(x, y), a1 ++ b1, b2, r', by simp, ⟨a1, b1, rfl, h1, k1⟩, k2, k3⟩
  | .int k, cs, as, K, h, hv => by
    cases cs with
    | nil => exact h.elim
    | cons c r =>
      obtain ⟨x, rfl, hk⟩ := h
      cases hv with
      | cons _ a _ as k1 k2 =>
        cases k1 with
        | val _ _ _ hs => exact ⟨x, [a], as, r, rfl, hs, k2, hk⟩
  | .bool, cs, as, K, h, hv => by
    cases cs with
    | nil => exact h.elim
    | cons c r =>
      obtain ⟨x, rfl, hk⟩ := h
      cases hv with
      | cons _ a _ as k1 k2 =>
        cases k1 with
        | val _ _ _ hs => exact ⟨x, [a], as, r, rfl, hs, k2, hk⟩
  | .fnil, cs, as, K, h, hv => by
    cases cs with
    | nil => exact h.elim
    | cons c r =>
      obtain ⟨x, rfl, hk⟩ := h
      cases hv with
      | cons _ a _ as k1 k2 =>
        cases k1 with
        | val _ _ _ hs => exact ⟨x, [a], as, r, rfl, hs, k2, hk⟩
  | .str, cs, as, K, h, hv => by
    cases cs with
    | nil => exact h.elim
    | cons c r =>
      obtain ⟨x, rfl, hk⟩ := h
      cases hv with
      | cons _ a _ as k1 k2 =>
        cases k1 with
        | val _ _ _ hs => exact ⟨x, [a], as, r, rfl, hs, k2, hk⟩
  | .list t, cs, as, K, h, hv => by
    cases cs with
    | nil => exact h.elim
    | cons c r =>
      obtain ⟨x, rfl, hk⟩ := h
      cases hv with
      | cons _ a _ as k1 k2 =>
        cases k1 with
        | val _ _ _ hs => exact ⟨x, [a], as, r, rfl, hs, k2, hk⟩
end Go.Proofs.YtffiddkignmobaaDoorTv
end
section
/- TV, part C: what an operation does to typed values. -/
namespace Go.Proofs.YtffiddkignmobaaDoorTv
open Go.Proofs.YtffiddkignmobaaDoorVe
/-- A type of the program. -/
structure TE where
  ty : Ty
  d : TD
  bytes : Nat
def zeroA : Ty → List AV
  | .int k => [.int k 0]
  | .bool => [.bool false]
  | .fnil => [.nilf]
  | .str => [.str ByteArray.empty]
  | .list _ => [.nil]
  | .unit => []
  | .pair a b => zeroA a ++ zeroA b
@[reducible] def look (tab : List (Nat × TE)) (t : Nat) : Option TE := match tab with
  | [] => none
  | (u, e) :: r => if t = u then some e else look r t
def dOk (tab : List (Nat × TE)) (e : TE) : Prop := match e.ty, e.d with
  | .list t, .sl el => ∃ e', look tab el = some e' ∧ e'.ty = t ∧ e'.bytes ≤ 128 ∧ e'.bytes ≠ 0 ∧ t.z ≠ 0
  | .int k, .int k' => k = k'
  | .bool, .bool => True
  | .fnil, .other => True
  | .str, .str => True
  | .pair _ _, .st _ => True
  | .pair _ _, .arr _ _ => True
  | .unit, .st _ => True
  | _, _ => False
def TabOk (P : Program) (tab : List (Nat × TE)) : Prop := ∀ t e, look tab t = some e → ti P t = some ⟨e.d, e.ty.z, e.bytes, zeroA e.ty⟩ ∧ dOk tab e
def TabAll (P : Program) (tab : List (Nat × TE)) : List (Nat × TE) → Prop
  | [] => True
  | (t, e) :: r => (ti P t = some ⟨e.d, e.ty.z, e.bytes, zeroA e.ty⟩ ∧ dOk tab e) ∧ TabAll P tab r
theorem tabAll_ok {P : Program} {tab : List (Nat × TE)} : ∀ {l : List (Nat × TE)}, TabAll P tab l → ∀ t e, look l t = some e → ti P t = some ⟨e.d, e.ty.z, e.bytes, zeroA e.ty⟩ ∧ dOk tab e
  | [], _, t, e, h => by simp [look] at h
  | (u, e') :: r, h, t, e, he => by
    simp only [look] at he
    split at he
    · rename_i e1
      injection he with he
      subst he; subst e1; exact h.1
    · exact tabAll_ok h.2 t e he
def in64 (r : Int) : Prop := -9223372036854775808 ≤ r ∧ r ≤ 9223372036854775807
/-- A condition that may go either way. -/
structure Br (x : Bool) (p q : Prop) : Prop where
  t : x = true → p
  f : x = false → q
theorem brT {x : Bool} {p q : Prop} (hx : x = true) (h : p) : Br x p q := ⟨fun _ => h, fun e => by (rw [hx] at e; cases e)⟩
theorem brF {x : Bool} {p q : Prop} (hx : x = false) (h : q) : Br x p q := ⟨fun e => (by rw [hx] at e; cases e), fun _ => h⟩
/-- A result that fits, or one that is cut down to its bits. -/
inductive OrW (p q r : Prop) : Prop
  | fit : p → q → OrW p q r
  | wrap : r → OrW p q r
/-- A whole number's result. -/
def intT (k : IntKind) (r : Int) (K : V → Prop) : Prop := match k with
  | .i64 => OrW (-9223372036854775808 ≤ r ∧ r ≤ 9223372036854775807) (K (.val (.int .i64) r)) (K (.val (.int .i64) (IntKind.wrap .i64 r)))
  | k => K (.val (.int k) (k.wrap r))
def binI (op : BinOp) (k : IntKind) (a b : Int) (K : V → Prop) : Prop := match op with
  | .add => intT k (a + b) K
  | .sub => intT k (a - b) K
  | .mul => intT k (a * b) K
  | .quo => b ≠ 0 ∧ intT k (a.tdiv b) K
  | .rem => b ≠ 0 ∧ K (.val (.int k) (a.tmod b))
  | .and => K (.val (.int k) (k.wrap (BitVec.ofInt k.bits a &&& BitVec.ofInt k.bits b).toNat))
  | .or => K (.val (.int k) (k.wrap (BitVec.ofInt k.bits a ||| BitVec.ofInt k.bits b).toNat))
  | .xor => K (.val (.int k) (k.wrap (BitVec.ofInt k.bits a ^^^ BitVec.ofInt k.bits b).toNat))
  | .eql => K (.b (decide (a = b)))
  | .neq => K (.b (decide (a ≠ b)))
  | .lss => K (.b (decide (a < b)))
  | .leq => K (.b (decide (a ≤ b)))
  | .gtr => K (.b (decide (b < a)))
  | .geq => K (.b (decide (b ≤ a)))
  | _ => False
def binS (op : BinOp) (a b : ByteArray) (K : V → Prop) : Prop := match op with
  | .add => a.size + b.size ≤ 140737488355328 ∧ K (.s (a ++ b))
  | .eql => K (.b (a.toList == b.toList))
  | .neq => K (.b (!(a.toList == b.toList)))
  | _ => False
def binT (op : BinOp) (x y : V) (K : V → Prop) : Prop := match x, y with
  | .val (.int k) a, .val (.int k') b => k = k' ∧ binI op k a b K
  | .val .str a, .val .str b => binS op a b K
  | _, _ => False
def shI (op : BinOp) (k : IntKind) (a b : Int) (K : V → Prop) : Prop := match op with
  | .shl => 0 ≤ b ∧ K (.val (.int k) (k.wrap (a * 2 ^ (min b.toNat k.bits))))
  | .shr => 0 ≤ b ∧ K (.val (.int k) (a.fdiv (2 ^ (min b.toNat k.bits))))
  | _ => False
def shT (op : BinOp) (x y : V) (K : V → Prop) : Prop := match x, y with
  | .val (.int k) a, .val (.int _) b => shI op k a b K
  | _, _ => False
def eqB (a b : Bool) (K : Bool → Prop) : Prop := K (a == b)
def needI (i : Int) (n : Nat) (p : Prop) : Prop := (0 ≤ i ∧ i < n) ∧ p
def needN (n m : Int) (p : Prop) : Prop := n = m ∧ 0 ≤ n ∧ n ≤ 274877906944 ∧ p
def maxI (a b : Int) : Int := if b > a then b else a
def minI (a b : Int) : Int := if b < a then b else a
def negI (k : IntKind) (a : Int) (K : V → Prop) : Prop := intT k (-a) K
def notB (a : Bool) (K : V → Prop) : Prop := K (.b (!a))
/-- Comparisons of what is no number and no string. -/
def eqT (σ : List Obj) (ty : Ty) (x y : V) (K : Bool → Prop) : Prop := match ty, x, y with
  | .bool, .val .bool a, .val .bool b => eqB a b K
  | .list _, .nil _, .nil _ => K true
  | .list t, .own id _ _, .nil _ => kind σ id = some (some t) ∧ K false
  | _, _, _ => False
def isShift : BinOp → Bool
  | .shl | .shr => true
  | _ => false
def opBin (tab : List (Nat × TE)) (σ : List Obj) (op : BinOp) (t : Nat) (x y : V) (K : V → Prop) : Prop :=
  if isShift op = true then shT op x y K else
  match x, y with
  | .val (.int _) _, .val (.int _) _ => binT op x y K
  | .val .str _, .val .str _ => binT op x y K
  | _, _ => match look tab t, op with
    | some e, .eql => eqT σ e.ty x y fun b => K (.b b)
    | some e, .neq => eqT σ e.ty x y fun b => K (.b (!b))
    | _, _ => False
/-- The elements that a slice shows. -/
def Rd (σ : List Obj) (t : Ty) (v : V) (k : List t.den → Prop) : Prop := match v with
  | .val _ _ => ∃ xs : List t.den, v = .val (.list t) xs ∧ k xs
  | .nil _ => k []
  | .own id off n => match σ[id]? with
    | some (.arr _ _ _) => ∃ xs u, σ[id]? = some (.arr t xs u) ∧ off + n ≤ xs.length ∧ k ((xs.drop off).take n)
    | some (.frz _ _) => ∃ xs, σ[id]? = some (.frz t xs) ∧ off + n ≤ xs.length ∧ k ((xs.drop off).take n)
    | _ => False
  | _ => False
def byteAt (s : ByteArray) (i : Int) : Int := ((s.data[i.toNat]?).map fun c => (c.toNat : Int)).getD 0
def lowT (q : Option Operand) (ρ : Operand → V) (K : Int → Prop) : Prop := match q with
  | none => K 0
  | some q => ∃ i : Int, ρ q = .val (.int .i64) i ∧ K i
def highT (q : Option Operand) (ρ : Operand → V) (n : Nat) (K : Int → Prop) : Prop := match q with
  | none => K n
  | some q => ∃ i : Int, ρ q = .val (.int .i64) i ∧ K i
/-- Values that fill cells. -/
def cellV : V → Bool
  | .val _ _ | .nil _ | .pel _ _ | .pcell _ _ | .fn _ _ | .nilp => true
  | .own _ _ _ => true
  | .mp _ => true
  | _ => false
def liveV (σ : List Obj) : V → Bool
  | .val _ _ | .nil _ | .fn _ _ | .nilp => true
  | .own id _ _ | .pel id _ => match kind σ id with
    | some (some _) => true
    | _ => false
  | .pcell id _ => match kind σ id with
    | some none => true
    | _ => false
  | .mp id => match kind σ id with
    | some (some .unit) => true
    | _ => false
  | _ => false
/-- Elements out of values. -/
def elemsC (t : Ty) : List V → (List t.den → Prop) → Prop
  | [], k => k []
  | v :: vs, k => elC t v.cells fun x r => r = [] ∧ elemsC t vs fun xs => k (x :: xs)
/-- Rows that are their own and are handed over: each a whole object. -/
def ownRows (t : Ty) : List V → List Obj → (List (List t.den) → List Obj → Prop) → Prop
  | [], σ, k => k [] σ
  | .nil _ :: vs, σ, k => ownRows t vs σ fun ls σ' => k ([] :: ls) σ'
  | .own id off n :: vs, σ, k => ∃ l, σ[id]? = some (.arr t l true) ∧ off = 0 ∧ n = l.length ∧ ownRows t vs (σ.set id .gone) fun ls σ' => k (l :: ls) σ'
  | _, _, _ => False
/-- A slice's object is changed no more. -/
def frzV (σ : List Obj) : V → List Obj
  | .own id _ _ => match σ[id]? with
    | some (.arr t l _) => σ.set id (.frz t l)
    | _ => σ
  | _ => σ
/-- A slice's rows are changed no more. -/
def sfrV (σ : List Obj) : V → List Obj
  | .own id _ _ => match σ[id]? with
    | some (.arr t l _) => σ.set id (.arr t l false)
    | _ => σ
  | _ => σ
/-- Rows by value. -/
def valRows (t : Ty) : List V → List Obj → (List (List t.den) → List Obj → Prop) → Prop
  | [], σ, k => k [] σ
  | v :: vs, σ, k => Rd σ t v fun l => valRows t vs (frzV σ v) fun ls σ' => k (l :: ls) σ'
def partsIn (ps : Array (Nat × Operand)) (n : Nat) : Prop := ps.toList.map (·.1) = List.range n
/-- The address of an element behind an offset. -/
def pelK (id off i : Nat) (K : V → Prop) : Prop := match off with
  | 0 => K (.pel id i)
  | off + 1 => K (.pel id (off + 1 + i))
theorem pelK_eq {id off i : Nat} {K : V → Prop} (h : pelK id off i K) : K (.pel id (off + i)) := by
  cases off with
  | zero => rw [Nat.zero_add]; exact h
  | succ n => exact h
section
variable (tab : List (Nat × TE)) (σ : List Obj) (ρ : Operand → V)
def buildT (t : Ty) (vs : List V) (K : V → List Obj → Prop) : Prop := match t with
  | .list t' => (ownRows t' vs σ fun ls σ' => K (.own σ'.length 0 ls.length) (σ' ++ [.arr (.list t') ls true])) ∨ (valRows t' vs σ fun ls σ' => K (.own σ'.length 0 ls.length) (σ' ++ [.arr (.list t') ls false]))
  | t => t.flat = true ∧ elemsC t vs fun xs => K (.own σ.length 0 xs.length) (σ ++ [.arr t xs true])
def appFlat (t : Ty) (a x : V) (K : V → List Obj → Prop) : Prop := Rd σ t x fun xs => match a with
  | .nil _ => (xs = [] → K (.nil t) σ) ∧ (xs ≠ [] → (xs.length : Int) ≤ 274877906944 ∧ K (.own σ.length 0 xs.length) (σ ++ [.arr t xs true]))
  | .own id off n => ∃ l u, σ[id]? = some (.arr t l u) ∧ off + n ≤ l.length ∧ ((n + xs.length : Nat) : Int) ≤ 274877906944 ∧ K (.own σ.length 0 (n + xs.length)) (σ.set id .gone ++ [.arr t ((l.drop off).take n ++ xs) true])
  | _ => False
/-- The bytes of a text. -/
def bys (s : ByteArray) : List Int := s.data.toList.map fun c => (c.toNat : Int)
def appK (t : Ty) (a : V) (xs : List t.den) (K : V → List Obj → Prop) : Prop := match a with
  | .nil _ => (xs = [] → K (.nil t) σ) ∧ (xs ≠ [] → (xs.length : Int) ≤ 274877906944 ∧ K (.own σ.length 0 xs.length) (σ ++ [.arr t xs true]))
  | .own id off n => ∃ l u, σ[id]? = some (.arr t l u) ∧ off + n ≤ l.length ∧ ((n + xs.length : Nat) : Int) ≤ 274877906944 ∧ K (.own σ.length 0 (n + xs.length)) (σ.set id .gone ++ [.arr t ((l.drop off).take n ++ xs) true])
  | _ => False
/-- Rows appended: their own to their own. -/
def appOwn (t : Ty) (a x : V) (K : V → List Obj → Prop) : Prop := match a, x with
  | .own id off n, .own id2 off2 n2 => ∃ l l2, σ[id]? = some (.arr t l true) ∧ σ[id2]? = some (.arr t l2 true) ∧ id ≠ id2 ∧ off = 0 ∧ n = l.length ∧ off2 = 0 ∧ n2 = l2.length ∧ ((n + n2 : Nat) : Int) ≤ 274877906944 ∧ K (.own σ.length 0 (n + n2)) ((σ.set id .gone).set id2 .gone ++ [.arr t (l ++ l2) true])
  | _, _ => False
/-- Rows appended by value. -/
def appVal (t : Ty) (a x : V) (K : V → List Obj → Prop) : Prop := Rd σ t x fun xs => match a with
  | .own id off n => ∃ l u, σ[id]? = some (.arr t l u) ∧ (match x with | .own id2 _ _ => id ≠ id2 | _ => True) ∧ off + n ≤ l.length ∧ ((n + xs.length : Nat) : Int) ≤ 274877906944 ∧ K (.own σ.length 0 (n + xs.length)) ((sfrV σ x).set id .gone ++ [.arr t ((l.drop off).take n ++ xs) false])
  | _ => False
def loadT0 (e : TE) (a : V) (K : V → List Obj → Prop) : Prop := match a with
  | .pv cs => match e.ty.isRec with
    | true => Nat.ble e.ty.z cs.length = true ∧ K (.agg (cs.take e.ty.z)) σ
    | false => match cs with
      | c :: _ => K c σ
      | [] => False
  | .pel id i => match σ[id]? with
    | some (.arr t l u) => e.ty = t ∧ i < l.length ∧ K (ofT t (rdT t l i)) (if t.flat = true ∨ u = false then σ else σ.set id (.frz t l))
    | some (.frz t l) => e.ty = t ∧ i < l.length ∧ K (ofT t (rdT t l i)) σ
    | _ => False
  | .pcell id k => match σ[id]? with
    | some (.vars vs) => Nat.ble (k + e.ty.z) vs.length = true ∧ match e.ty.isRec with
      | true => K (.agg ((vs.drop k).take e.ty.z)) σ
      | false => K (vs.getD k .undef) σ
    | _ => False
  | _ => False
def storeT0 (e : TE) (a x : V) (K : V → List Obj → Prop) : Prop := match a with
  | .pel id i => match e.ty with
    | .list t' => ∃ id2 n l2 ls, x = .own id2 0 n ∧ σ[id2]? = some (.arr t' l2 true) ∧ n = l2.length ∧ id ≠ id2 ∧ σ[id]? = some (.arr (.list t') ls true) ∧ i < ls.length ∧ K .undef ((σ.set id2 .gone).set id (.arr (.list t') (ls.set i l2) true))
    | t => t.flat = true ∧ ∃ ls u, σ[id]? = some (.arr t ls u) ∧ i < ls.length ∧ elC t x.cells fun y r => r = [] ∧ K .undef (σ.set id (.arr t (ls.set i y) u))
  | .pcell id k => match σ[id]? with
    | some (.vars vs) => (x.cells.all (liveV σ) = true) ∧ x.cells.length = e.ty.z ∧ Nat.ble (k + e.ty.z) vs.length = true ∧ K .undef (σ.set id (.vars (vs.take k ++ x.cells ++ vs.drop (k + e.ty.z))))
    | _ => False
  | _ => False
/-- A row that is put back: an object of its own, or nothing. -/
def joinV (id : Nat) (t : Ty) (l : List (List t.den)) (i : Nat) (v : V) (K : List (List t.den) → List Obj → Prop) : Prop := match v with
  | .nil _ => K (l.set i []) (σ.set id (.arr (.list t) (l.set i []) true))
  | .own id2 off n => ∃ row : List t.den, σ[id2]? = some (.arr t row true) ∧ off = 0 ∧ n = row.length ∧ id ≠ id2 ∧ K (l.set i row) ((σ.set id2 .gone).set id (.arr (.list t) (l.set i row) true))
  | _ => False
/-- Either an empty row, which may be nil, or any row. -/
structure Spl (p q : Prop) : Prop where
  e : p
  o : q
/-- A row is taken out. -/
def splitK (id i : Nat) (t : Ty) (l : List (List t.den)) (K : V → List Obj → Prop) : Prop :=
  Spl (l.getD i [] = [] → K (.nil t) (σ.set id (.hole t l i (.nil t)) ++ [.gone])) (K (.own σ.length 0 (l.getD i []).length) (σ.set id (.hole t l i (.own σ.length 0 (l.getD i []).length)) ++ [.arr t (l.getD i []) true]))
def loadT (e : TE) (a : V) (K : V → List Obj → Prop) : Prop := match a with
  | .pel id i => match σ[id]? with
    | some (.arr (.list t) l true) => loadT0 σ e (.pel id i) K ∨ (e.ty = .list t ∧ i < List.length l ∧ splitK σ id i t l K)
    | some (.hole t l j v) => e.ty = .list t ∧ ((i = j ∧ K v σ) ∨ joinV σ id t l j v fun l' σ' => i < l'.length ∧ splitK σ' id i t l' K)
    | _ => loadT0 σ e (.pel id i) K
  | a => loadT0 σ e a K
def storeT (e : TE) (a x : V) (K : V → List Obj → Prop) : Prop := match a with
  | .pel id i => match σ[id]? with
    | some (.hole t l j _) => e.ty = .list t ∧ i = j ∧ joinV σ id t l j x fun _ σ' => K .undef σ'
    | some (.arr (.list t) l false) => e.ty = .list t ∧ i < List.length l ∧ (match x with | .own id2 _ _ => id ≠ id2 | _ => True) ∧ Rd σ t x fun xs => K .undef ((frzV σ x).set id (.arr (.list t) (List.set l i xs) false))
    | _ => storeT0 σ e (.pel id i) x K
  | a => storeT0 σ e a x K
def fillV (place : Nat → Option (Nat × Nat)) (cells : List V) : List (Nat × V) → (List V → Prop) → Prop
  | [], k => k cells
  | (i, v) :: rest, k => match place i with
    | none => False
    | some (off, size) => v.cells.all (liveV σ) = true ∧ v.cells.length = size ∧ Nat.ble (off + v.cells.length) cells.length = true ∧ fillV place (cells.take off ++ v.cells ++ cells.drop (off + v.cells.length)) rest k
/-- Own rows that are moved by one place: a hole is left. -/
def shiftT (t' : Ty) (id off n : Nat) (x : V) (K : V → List Obj → Prop) : Prop := match t', x with
  | .list t, .own id2 off2 n2 => ∃ l, σ[id]? = some (.arr (.list t) l true) ∧ id2 = id ∧ off = off2 + 1 ∧ n2 = n + 1 ∧ off + n = List.length l ∧ K (.i n) (σ.set id (.hole t (List.take off2 l ++ [] :: List.take n (List.drop off2 l)) off2 .undef))
  | _, _ => False
/-- Rows by value are copied. -/
def copyV (t' : Ty) (id off n : Nat) (x : V) (K : V → List Obj → Prop) : Prop := Rd σ t' x fun xs => ∃ l, (sfrV σ x)[id]? = some (.arr t' l false) ∧ off + n ≤ l.length ∧
  K (.i (min xs.length n : Nat)) ((sfrV σ x).set id (.arr t' (l.take off ++ xs.take (min xs.length n) ++ l.drop (off + min xs.length n)) false))
def rowsC (t' : Ty) (id off n : Nat) (x : V) (K : V → List Obj → Prop) : Prop := match σ[id]? with
  | some (.arr _ _ false) => copyV σ t' id off n x K
  | _ => shiftT σ t' id off n x K
def builtinT : Builtin → List TypeId → List V → (V → List Obj → Prop) → Prop
  | .len, [t], [v], K => match look tab t, v with
    | some e, .val .str s => e.ty = .str ∧ K (.i (ByteArray.size s)) σ
    | some e, .val (.list t') l => e.ty = .list t' ∧ K (.i (List.length l)) σ
    | some e, .nil _ => (match e.ty with | .list _ => True | _ => False) ∧ K (.i 0) σ
    | some e, .own id _ n => kind σ id = some (some (match e.ty with | .list t' => t' | t => t)) ∧ (match e.ty with | .list _ => True | _ => False) ∧ K (.i n) σ
    | _, _ => False
  | .max, _, [.val (.int k) a, .val (.int k') b], K => k = k' ∧ K (.val (.int k) (maxI a b)) σ
  | .min, _, [.val (.int k) a, .val (.int k') b], K => k = k' ∧ K (.val (.int k) (minI a b)) σ
  | .append, [t, u], [a, x], K => match look tab t, look tab u with
    | some e, some ⟨.str, .str, _⟩ => match x with
      | .val .str s => e.ty = .list (.int .u8) ∧ appK σ (.int .u8) a (bys s) K
      | _ => False
    | some e, some e' => match e.ty with
      | .list t' => e'.ty = .list t' ∧ if t'.flat = true then appFlat σ t' a x K else appOwn σ t' a x K ∨ appVal σ t' a x K
      | _ => False
    | _, _ => False
  | .copy, [t, u], [a, x], K => match look tab t, look tab u with
    | some e, some e' => match e.ty, a with
      | .list t', .own id off n => e'.ty = .list t' ∧ if t'.flat = true then (Rd σ t' x fun xs => ∃ l u, σ[id]? = some (.arr t' l u) ∧ off + n ≤ l.length ∧
          K (.i (min xs.length n : Nat)) (σ.set id (.arr t' (l.take off ++ xs.take (min xs.length n) ++ l.drop (off + min xs.length n)) u))) else rowsC σ t' id off n x K
      | _, _ => False
    | _, _ => False
  | _, _, _, _ => False
/-- Own rows of which one is taken out: it is put back first. -/
def unhT (a : V) (K : List Obj → Prop) : Prop := match a with
  | .own id _ _ => match σ[id]? with
    | some (.hole t l i v) => joinV σ id t l i v fun _ σ' => K σ'
    | _ => K σ
  | _ => K σ
def opT (op : Op) (K : V → List Obj → Prop) : Prop := match op with
  | .move x => K (ρ x) σ
  | .assign x => K (ρ x) σ
  | .pick c a b => match ρ c with
    | .val .bool x => Br x (K (ρ a) σ) (K (ρ b) σ)
    | _ => False
  | .alloc t => match look tab t with
    | some e => K (.pcell σ.length 0) (σ ++ [.vars (zeroV e.ty)])
    | none => False
  | .box _ x => ((ρ x).cells.all (liveV σ) = true) ∧ K (.pcell σ.length 0) (σ ++ [.vars (ρ x).cells])
  | .build t ps => match look tab t with
    | some ⟨ty, .st fs, _⟩ => fillV σ (fun i => fs[i]?) (zeroV ty) (ps.toList.map fun p => (p.1, ρ p.2)) fun cs => K (.agg cs) σ
    | some ⟨ty, .arr _ el, _⟩ => match look tab el with
      | some e' => fillV σ (fun i => some (i * e'.ty.z, e'.ty.z)) (zeroV ty) (ps.toList.map fun p => (p.1, ρ p.2)) fun cs => K (.agg cs) σ
      | none => False
    | _ => False
  | .buildSlice t n ps => match look tab t with
    | some e => match e.ty with
      | .list t' => Nat.ble (n * t'.z) 4096 = true ∧ ps.toList.map (·.1) = List.range n ∧ buildT σ t' (ps.toList.map fun p => ρ p.2) K
      | _ => False
    | none => False
  | .load t a => match look tab t with
    | some e => loadT σ e (ρ a) K
    | none => False
  | .store t a x => match look tab t with
    | some e => storeT σ e (ρ a) (ρ x) K
    | none => False
  | .nilCheck x => match ρ x with
    | .pcell id k => kind σ id = some none ∧ K (.pcell id k) σ
    | _ => False
  | .binOp op t x y _ => opBin tab σ op t (ρ x) (ρ y) fun v => K v σ
  | .unOp .neg _ x => match ρ x with
    | .val (.int k) a => negI k a fun v => K v σ
    | _ => False
  | .unOp .not _ x => match ρ x with
    | .val .bool a => notB a fun v => K v σ
    | _ => False
  | .convert src dst x => match look tab src, look tab dst, ρ x with
    | some _, some ⟨.int k', .int k, _⟩, .val (.int _) a => k = k' ∧ K (.val (.int k) (k.wrap a)) σ
    | some e, some ⟨.str, .str, _⟩, v => e.ty = .list (.int .u8) ∧ Rd σ (.int .u8) v fun xs => K (.s (strOfNums xs)) σ
    | _, _, _ => False
  | .makeFunc (.func f) first caps => first.size = 0 ∧ K (.fn f (caps.toList.map ρ)) σ
  | .makeSlice t l c => match look tab t, ρ l, ρ c with
    | some e, .val (.int .i64) n, .val (.int .i64) m => match e.ty with
      | .list t' => needN n m (K (.own σ.length 0 (Int.toNat n)) (σ ++ [.arr t' (List.replicate (Int.toNat n) (dflt t')) true]))
      | _ => False
    | _, _, _ => False
  | .slice t x lo hi mx => match mx, look tab t, ρ x with
    | none, some e, .val .str s => e.ty = .str ∧ lowT lo ρ fun l => highT hi ρ (ByteArray.size s) fun h => (0 ≤ l ∧ l ≤ h ∧ h ≤ ByteArray.size s) ∧ K (.s (ByteArray.extract s l.toNat h.toNat)) σ
    | none, some e, .val (.list t') xs => e.ty = .list t' ∧ List.length xs ≠ 0 ∧ lowT lo ρ fun l => highT hi ρ (List.length xs) fun h => (0 ≤ l ∧ l ≤ h ∧ h ≤ List.length xs) ∧ K (.val (.list t') ((List.drop l.toNat xs).take (h - l).toNat)) σ
    | none, some e, .own id off n => match σ[id]? with
      | some (.arr t' _ _) => e.ty = .list t' ∧ lowT lo ρ fun l => highT hi ρ n fun h => (0 ≤ l ∧ l ≤ h ∧ h ≤ n) ∧ K (.own id (off + l.toNat) (h - l).toNat) σ
      | some (.frz t' _) => e.ty = .list t' ∧ lowT lo ρ fun l => highT hi ρ n fun h => (0 ≤ l ∧ l ≤ h ∧ h ≤ n) ∧ K (.own id (off + l.toNat) (h - l).toNat) σ
      | _ => False
    | none, some e, .nil t0 => (∃ t', e.ty = .list t' ∧ True) ∧ lowT lo ρ fun l => highT hi ρ 0 fun h => (0 ≤ l ∧ l ≤ h ∧ h ≤ (0 : Nat)) ∧ K (.nil t0) σ
    | _, _, _ => False
  | .fieldAddr t x f => match look tab t, ρ x with
    | some ⟨_, .st fs, _⟩, .pcell id k => match fs[f]? with
      | some (o, n) => n ≠ 0 ∧ kind σ id = some none ∧ K (.pcell id (k + o)) σ
      | none => False
    | _, _ => False
  | .indexAddr t x i => match look tab t, ρ x, ρ i with
    | some e, .val (.list t') xs, .val (.int _) i => e.ty = .list t' ∧ needI i (List.length xs) (K (.pv (cellsT t' (rdT t' xs i))) σ)
    | some e, .own id off n, .val (.int _) i => kind σ id = some (some (match e.ty with | .list t' => t' | t => t)) ∧ (match e.ty with | .list _ => True | _ => False) ∧ needI i n (pelK id off (Int.toNat i) fun v => K v σ)
    | some ⟨_, .arr n el, _⟩, .pcell id k, .val (.int _) i => match look tab el with
      | some e' => kind σ id = some none ∧ needI i n (K (.pcell id (k + Int.toNat i * e'.ty.z)) σ)
      | none => False
    | _, _, _ => False
  | .index t x i => match look tab t, ρ x, ρ i with
    | some e, .val .str s, .val (.int _) i => e.ty = .str ∧ needI i (ByteArray.size s) (K (.val (.int .u8) (byteAt s i)) σ)
    | _, _, _ => False
  | .extract x i => match ρ x with
    | .tup vs => match vs[i]? with
      | some v => K v σ
      | none => False
    | _ => False
  | .call c => match c.callee with
    | .builtin .append => unhT σ ((c.args.toList.map ρ).headD .undef) fun σ => builtinT tab σ .append c.argTypes.toList (c.args.toList.map ρ) K
    | .builtin .copy => unhT σ ((c.args.toList.map ρ).headD .undef) fun σ => builtinT tab σ .copy c.argTypes.toList (c.args.toList.map ρ) K
    | .builtin b => builtinT tab σ b c.argTypes.toList (c.args.toList.map ρ) K
    | _ => False
  | _ => False
end
end Go.Proofs.YtffiddkignmobaaDoorTv
end
section
/- TV, part D: operations on numbers, texts and conditions are sound. -/
namespace Go.Proofs.YtffiddkignmobaaDoorTv
open Go.Proofs.YtffiddkignmobaaDoorVe
def Snd (P : Program) (m : MS) (σ : List Obj) (s : Nat) (ρv : Operand → AV) (op : Op) (K : V → List Obj → Prop) : Prop :=
  ∃ av H', opE P s ρv m.H op = some (av, H') ∧ ∃ v σ' m', m'.H = H' ∧ Step m σ s v av m' σ' ∧ K v σ'
section
variable {P : Program} {tab : List (Nat × TE)} {m : MS} {σ : List Obj} {s : Nat} {ρ : Operand → V} {ρv : Operand → AV} {K : V → List Obj → Prop} {op : Op}
theorem Snd.same (hS : St m σ) {av : AV} {v : V} (h : opE P s ρv m.H op = some (av, m.H)) (hv : VT m σ v av) (hk : K v σ) : Snd P m σ s ρv op K :=
  ⟨av, m.H, h, v, σ, m, rfl, Step.same hS hv, hk⟩
theorem VT.int_inv {k : IntKind} {x : (Ty.int k).den} {a : AV} (h : VT m σ (.val (.int k) x) a) : a = .int k x := by
  cases h with
  | val _ _ _ hs =>
    have e : [a] = [AV.int k x] := hs
    simpa using e
theorem VT.bool_inv {x : Bool} {a : AV} (h : VT m σ (.val .bool x) a) : a = .bool x := by
  cases h with
  | val _ _ _ hs =>
    have e : [a] = [AV.bool x] := hs
    simpa using e
theorem VT.str_inv {x : ByteArray} {a : AV} (h : VT m σ (.val .str x) a) : a = .str x := by
  cases h with
  | val _ _ _ hs =>
    have e : [a] = [AV.str x] := hs
    simpa using e
theorem VT.int {k : IntKind} (x : Int) : VT m σ (.val (.int k) x) (.int k x) := .val (.int k) x _ rfl
theorem VT.bool (x : Bool) : VT m σ (.val .bool x) (.bool x) := .val .bool x _ rfl
theorem VT.str (x : ByteArray) : VT m σ (.val .str x) (.str x) := .val .str x _ rfl
theorem wrap_in {r : Int} (h : in64 r) : IntKind.wrap .i64 r = r := wrap64 h
/-- A number's result: the value that is told. -/
theorem intT_spec {k : IntKind} {r : Int} {K : V → Prop} (h : intT k r K) : K (.val (.int k) (k.wrap r)) := by
  unfold intT at h
  split at h
  · rcases h with ⟨h1, h2⟩ | h
    · rw [wrap_in h1]; exact h2
    · exact h
  · exact h
theorem opE_bin {op : BinOp} {t u : TypeId} {x y : Operand} {v : AV} (h : binA op (ρv x) (ρv y) = some v) : opE P s ρv m.H (.binOp op t x y u) = some (v, m.H) := by
  simp only [opE, h]
theorem beq_dec (a b : Int) : (a == b) = decide (a = b) := by by_cases h : a = b <;> simp [h]
theorem bne_dec (a b : Int) : (a != b) = decide (a ≠ b) := by by_cases h : a = b <;> simp [h]
theorem binI_sound (m : MS) (σ : List Obj) {op : BinOp} {k : IntKind} {a b : Int} {K : V → Prop} (hsh : isShift op = false) (h : binI op k a b K) : ∃ v w, binA op (.int k a) (.int k b) = some v ∧ VT m σ w v ∧ K w := by
  have e0 : ∀ {α : Type} (p q : α), (if k ≠ k then p else q) = q := fun p q => if_neg (fun c => c rfl)
  have key : ∀ {v : AV} {w : V}, binA op (.int k a) (.int k b) = some v → VT m σ w v → K w → ∃ v w, binA op (.int k a) (.int k b) = some v ∧ VT m σ w v ∧ K w := fun h1 h2 h3 => ⟨_, _, h1, h2, h3⟩
  cases op with
  | add => exact key (by simp only [binA, e0]) (VT.int _) (intT_spec (r := a + b) h)
  | sub => exact key (by simp only [binA, e0]) (VT.int _) (intT_spec (r := a - b) h)
  | mul => exact key (by simp only [binA, e0]) (VT.int _) (intT_spec (r := a * b) h)
  | quo => exact key (by simp only [binA, e0]; exact if_neg h.1) (VT.int _) (intT_spec (r := a.tdiv b) h.2)
  | rem => exact key (by simp only [binA, e0]; exact if_neg h.1) (VT.int _) h.2
  | and => exact key (by simp only [binA, e0]) (VT.int _) h
  | or => exact key (by simp only [binA, e0]) (VT.int _) h
  | xor => exact key (by simp only [binA, e0]) (VT.int _) h
  | eql => exact key (by simp only [binA, e0]; rw [beq_dec a b]) (VT.bool _) h
  | neq => exact key (by simp only [binA, e0]; rw [bne_dec a b]) (VT.bool _) h
  | lss => exact key (by simp only [binA, e0]) (VT.bool _) h
  | leq => exact key (by simp only [binA, e0]) (VT.bool _) h
  | gtr => exact key (by simp only [binA, e0]) (VT.bool _) h
  | geq => exact key (by simp only [binA, e0]) (VT.bool _) h
  | _ => first | exact h.elim | cases hsh
theorem binS_sound (m : MS) (σ : List Obj) {op : BinOp} {a b : ByteArray} {K : V → Prop} (h : binS op a b K) : ∃ v w, binA op (.str a) (.str b) = some v ∧ VT m σ w v ∧ K w := by
  cases op with
  | add => exact ⟨_, _, by simp only [binA]; exact if_pos h.1, VT.str _, h.2⟩
  | eql => exact ⟨_, _, by simp only [binA], VT.bool _, h⟩
  | neq => exact ⟨_, _, by simp only [binA], VT.bool _, h⟩
  | _ => exact h.elim
theorem bin_sound (hS : St m σ) {op : BinOp} {t u : TypeId} {x y : Operand} (hx : VT m σ (ρ x) (ρv x)) (hy : VT m σ (ρ y) (ρv y)) (hsh : isShift op = false) (h : binT op (ρ x) (ρ y) fun v => K v σ) : Snd P m σ s ρv (.binOp op t x y u) K := by
  unfold binT at h
  split at h
  · rename_i k a k' b hxe hye
    rw [hxe] at hx
    rw [hye] at hy
    obtain ⟨rfl, h⟩ := h
    obtain ⟨v, w, h1, h2, h3⟩ := binI_sound m σ hsh h
    exact Snd.same hS (opE_bin (by rw [hx.int_inv, hy.int_inv]; exact h1)) h2 h3
  · rename_i a b hxe hye
    rw [hxe] at hx
    rw [hye] at hy
    obtain ⟨v, w, h1, h2, h3⟩ := binS_sound m σ h
    exact Snd.same hS (opE_bin (by rw [hx.str_inv, hy.str_inv]; exact h1)) h2 h3
  · exact h.elim
theorem shift_sound (hS : St m σ) {op : BinOp} {t u : TypeId} {x y : Operand} (hx : VT m σ (ρ x) (ρv x)) (hy : VT m σ (ρ y) (ρv y)) (h : shT op (ρ x) (ρ y) fun v => K v σ) : Snd P m σ s ρv (.binOp op t x y u) K := by
  unfold shT at h
  split at h
  · rename_i k a k' b hxe hye
    rw [hxe] at hx
    rw [hye] at hy
    have key : ∀ (a b : Int), shI op k a b (fun v => K v σ) → ∃ v w, binA op (.int k a) (.int k' b) = some v ∧ VT m σ w v ∧ K w σ := fun a b h => by
      unfold shI at h
      split at h
      · exact ⟨_, _, by simp only [binA]; exact if_pos h.1, VT.int _, h.2⟩
      · exact ⟨_, _, by simp only [binA]; exact if_pos h.1, VT.int _, h.2⟩
      · exact h.elim
    obtain ⟨v, w, h1, h2, h3⟩ := key a b h
    exact Snd.same hS (opE_bin (by rw [hx.int_inv, hy.int_inv]; exact h1)) h2 h3
  · exact h.elim
end
end Go.Proofs.YtffiddkignmobaaDoorTv
end
section
/- TV, part E: steps that make and change objects; slices that are read. -/
namespace Go.Proofs.YtffiddkignmobaaDoorTv
open Go.Proofs.YtffiddkignmobaaDoorVe
def anyF (m : MS) : Nat → Nat → Prop := fun s j => ∃ k, m.F s j = some k
theorem flatten_sub {α : Type} {z : Nat} : ∀ (l : List (List α)) (off n : Nat), (∀ c ∈ l, c.length = z) → off + n ≤ l.length → ((l.drop off).take n).flatten = (l.flatten.drop (off * z)).take (n * z)
  | l, 0, 0, _, _ => by simp
  | [], 0, n + 1, _, h => by simp at h
  | c :: l, 0, n + 1, hz, h => by
    have ih := flatten_sub l 0 n (fun d hd => hz d (by simp [hd])) (by simp at h ⊢; omega)
    have hc := hz c (by simp)
    simp only [List.drop_zero, Nat.zero_mul, List.take_succ_cons, List.flatten_cons] at ih ⊢
    rw [ih, List.take_append, hc]
    have e1 : (n + 1) * z - z = n * z := by rw [Nat.succ_mul]; omega
    rw [e1, List.take_of_length_le (l := c) (by rw [hc]; exact Nat.le_mul_of_pos_left z (by omega))]
  | [], off + 1, n, _, h => by simp at h
  | c :: l, off + 1, n, hz, h => by
    have ih := flatten_sub l off n (fun d hd => hz d (by simp [hd])) (by simp at h; omega)
    have hc := hz c (by simp)
    simp only [List.drop_succ_cons, List.flatten_cons]
    rw [ih, List.drop_append, hc]
    have e1 : (off + 1) * z - z = off * z := by rw [Nat.succ_mul]; omega
    rw [e1, List.drop_of_length_le (l := c) (by rw [hc]; exact Nat.le_mul_of_pos_left z (by omega))]
    simp
theorem All2.chunk {G : Nat → Nat → Prop} {H : Heap} {t : Ty} {l : List t.den} {ch : List (List AV)} (h : All2 (fun x c => Sh G H t x c) l ch) : ∀ c ∈ ch, c.length = t.z := fun c hc => by
  obtain ⟨i, hi⟩ := List.mem_iff_getElem?.1 hc
  have h1 : i < ch.length := (List.getElem?_eq_some_iff.1 hi).1
  have h2 : i < l.length := by rw [h.length]; exact h1
  obtain ⟨y, hy, hs⟩ := h.get (List.getElem?_eq_getElem h2)
  rw [hi] at hy
  injection hy with hy
  subst hy
  exact hs.length
theorem All2.cells {G : Nat → Nat → Prop} {H : Heap} {t : Ty} {l : List t.den} {ch : List (List AV)} (h : All2 (fun x c => Sh G H t x c) l ch) : ch.flatten.length = l.length * t.z := by
  rw [flatten_length h.chunk, h.length]
theorem sub_sh {G : Nat → Nat → Prop} {H : Heap} {t : Ty} {l : List t.den} {ch : List (List AV)} {s j g off n : Nat} (ho : H.ob s j = some ⟨g, t.z, ch.flatten⟩) (h : All2 (fun x c => Sh G H t x c) l ch) (hn : off + n ≤ l.length) (hl : (l.length : Int) ≤ most) (hG : G s j) :
    Sh G H (.list t) ((l.drop off).take n) [.sl s j g (off * t.z) n] := by
  have hlen : ((l.drop off).take n).length = n := by simp; omega
  have hcl := h.cells
  refine ⟨_, (ch.drop off).take n, rfl, rfl, by rw [hlen]; rfl, ?_, fun _ => hG, by rw [hlen]; simp only [most, huge] at *; omega, (h.drop off).take n⟩
  rw [flatten_sub ch off n h.chunk (by rw [← h.length]; exact hn)]
  simp only [rowA, ho]
  split
  · rename_i e; simp [e]
  · have : off * t.z + n * t.z ≤ ch.flatten.length := by
      rw [hcl, ← Nat.add_mul]; exact Nat.mul_le_mul_right _ hn
    rw [if_pos ⟨trivial, trivial, this⟩]
section
variable {m : MS} {σ : List Obj}
theorem Sh.any {t : Ty} {x : t.den} {cs : List AV} (h : Sh m.fz m.H t x cs) : Sh (anyF m) m.H t x cs := h.keep fun _ _ g => ⟨⟨_, g⟩, rfl⟩
theorem All2.any {t : Ty} {l : List t.den} {ch : List (List AV)} (h : All2 (fun x c => Sh m.fz m.H t x c) l ch) : All2 (fun x c => Sh (anyF m) m.H t x c) l ch := h.mono fun _ _ _ _ k => k.any
/-- The elements of an object of its own. -/
theorem OT.arr {id : Nat} {t : Ty} {l : List t.den} {u : Bool} (h : OT m σ id (.arr t l u)) : ∃ g ch, m.at id = some ⟨g, t.z, ch.flatten⟩ ∧ All2 (fun x c => Sh (anyF m) m.H t x c) l ch ∧ (l.length : Int) ≤ most ∧ m.F (m.ι id).1 (m.ι id).2 = some (id + 1) := by
  cases u with
  | false =>
    obtain ⟨g, ch, h1, h2, h3, h4⟩ := h
    exact ⟨g, ch, h1, h4.any, h3, h2⟩
  | true =>
    obtain ⟨o, O, h1, h2, h3, h4⟩ := h
    rcases h2 with ⟨e, _⟩ | ⟨s, j, g, parts, e, ho, rfl, hl, hp⟩
    · simp at e
    · simp only [List.cons.injEq, AV.sl.injEq, and_true] at e
      obtain ⟨e1, e2, e3⟩ := e
      have hF := h4 (s, j) (by simp)
      rw [← e1, ← e2] at ho hF
      refine ⟨g, parts.map (·.1), ?_, All2.map_right _ |>.2 (hp.mono fun x p _ hpp k => k.sh fun q hq => ⟨_, h4 q ?_⟩), hl, hF⟩
      · exact ho
      simp only [List.mem_cons, List.mem_flatten, List.mem_map]
      exact .inr ⟨p.2, ⟨p, hpp, rfl⟩, hq⟩
theorem OT.frz {id : Nat} {t : Ty} {l : List t.den} (h : OT m σ id (.frz t l)) : ∃ g ch, m.at id = some ⟨g, t.z, ch.flatten⟩ ∧ All2 (fun x c => Sh m.fz m.H t x c) l ch ∧ (l.length : Int) ≤ most ∧ m.F (m.ι id).1 (m.ι id).2 = some 0 := by
  obtain ⟨g, ch, h1, h2, h3, h4⟩ := h
  exact ⟨g, ch, h1, h4, h3, h2⟩
theorem kind_arr {id : Nat} {t : Ty} {l : List t.den} {u : Bool} (h : σ[id]? = some (.arr t l u)) : kind σ id = some (some t) := by simp [kind, h, Obj.kind]
theorem kind_frz {id : Nat} {t : Ty} {l : List t.den} (h : σ[id]? = some (.frz t l)) : kind σ id = some (some t) := by simp [kind, h, Obj.kind]
theorem kind_vars {id : Nat} {vs : List V} (h : σ[id]? = some (.vars vs)) : kind σ id = some none := by simp [kind, h, Obj.kind]
/-- A live object lies where F tells. -/
theorem OT.owner (hS : St m σ) {id : Nat} {κ : Option Ty} (h : kind σ id = some κ) : (m.F (m.ι id).1 (m.ι id).2 = some (id + 1) ∨ m.F (m.ι id).1 (m.ι id).2 = some 0) ∧ ∃ o, m.at id = some o := by
  unfold kind at h
  cases e : σ[id]? with
  | none => simp [e] at h
  | some o =>
    have ho := hS.obj id o e
    cases o with
    | gone => simp [e, Obj.kind] at h
    | mpt t l => obtain ⟨g, as, h1, h2, h3⟩ := ho; exact ⟨.inl h2, _, h1⟩
    | hole t l i v => obtain ⟨g, parts, c, h1, _⟩ := ho; exact ⟨.inl h1.own, _, h1.at'⟩
    | vars vs => obtain ⟨g, z, as, h1, h2, h3⟩ := ho; exact ⟨.inl h2, _, h1⟩
    | frz t l => obtain ⟨g, ch, h1, h2, h3, h4⟩ := ho.frz; exact ⟨.inr h4, _, h1⟩
    | arr t l u => obtain ⟨g, ch, h1, h2, h3, h4⟩ := ho.arr; exact ⟨.inl h4, _, h1⟩
theorem VT.own_inv {id off n : Nat} {a : AV} (h : VT m σ (.own id off n) a) {t : Ty} (hk : kind σ id = some (some t)) : ∃ o, m.at id = some o ∧ a = .sl (m.ι id).1 (m.ι id).2 o.g (off * t.z) n := by
  cases h with
  | own _ _ _ _ h1 h2 => exact h2 t hk
theorem VT.pel_inv {id i : Nat} {a : AV} (h : VT m σ (.pel id i) a) {t : Ty} (hk : kind σ id = some (some t)) : ∃ o, m.at id = some o ∧ a = .ptr (m.ι id).1 (m.ι id).2 o.g (i * t.z) := by
  cases h with
  | pel _ _ _ h1 h2 => exact h2 t hk
theorem kind_mpt {id : Nat} {t : Ty} {l : List (Int × t.den)} (h : σ[id]? = some (.mpt t l)) : kind σ id = some (some .unit) := by simp [kind, h, Obj.kind]
theorem VT.mp_inv {id : Nat} {a : AV} (h : VT m σ (.mp id) a) (hk : kind σ id = some (some .unit)) : ∃ o, m.at id = some o ∧ a = .mp (m.ι id).1 (m.ι id).2 o.g := by
  cases h with
  | mp _ _ h1 h2 => exact h2 hk
theorem VT.pcell_inv {id k : Nat} {a : AV} (h : VT m σ (.pcell id k) a) (hk : kind σ id = some none) : ∃ o, m.at id = some o ∧ a = .ptr (m.ι id).1 (m.ι id).2 o.g k := by
  cases h with
  | pcell _ _ _ h1 h2 => exact h2 hk
theorem Rd_sound (hS : St m σ) {t : Ty} {v : V} {a : AV} {k : List t.den → Prop} (h : Rd σ t v k) (hv : VT m σ v a) : ∃ xs, k xs ∧ Sh (anyF m) m.H (.list t) xs [a] := by
  unfold Rd at h
  split at h
  · rename_i t' x'
    obtain ⟨xs, e, hk⟩ := h
    rw [e] at hv
    cases hv with
    | val _ _ _ hs => exact ⟨xs, hk, hs.any⟩
  · cases hv
    exact ⟨[], h, .nil, [], rfl, rfl, rfl, rfl, trivial, by simp [most], trivial⟩
  · rename_i id off n
    split at h
    · obtain ⟨xs, u, e, hn, hk⟩ := h
      obtain ⟨g, ch, h1, h2, h3, h4⟩ := (hS.obj id _ e).arr
      obtain ⟨o, k1, rfl⟩ := hv.own_inv (kind_arr e)
      rw [h1] at k1
      injection k1 with k1
      subst k1
      exact ⟨_, hk, sub_sh h1 h2 hn h3 ⟨_, h4⟩⟩
    · obtain ⟨xs, e, hn, hk⟩ := h
      obtain ⟨g, ch, h1, h2, h3, h4⟩ := (hS.obj id _ e).frz
      obtain ⟨o, k1, rfl⟩ := hv.own_inv (kind_frz e)
      rw [h1] at k1
      injection k1 with k1
      subst k1
      exact ⟨_, hk, (sub_sh h1 h2 hn h3 h4).any⟩
    · exact h.elim
  · exact h.elim
/-- Whose objects are, behind a step: those of C are let go but for O (the object new's) and Z (frozen). -/
def reF (m : MS) (C : List Nat) (O Z : List (Nat × Nat)) (new : Nat) : Nat → Nat → Option Nat := fun t j =>
  if (t, j) ∈ O then some (new + 1) else if (t, j) ∈ Z then some 0 else match m.F t j with
    | some (k + 1) => if k ∈ C then none else some (k + 1)
    | x => x
def reι (m : MS) (new : Nat) (p : Nat × Nat) : Nat → Nat × Nat := fun i => if i = new then p else m.ι i
theorem mk_step (hS : St m σ) {σ' : List Obj} {s : Nat} (hs : m.H s = []) (C : List Nat) (O Z : List (Nat × Nat)) (new : Nat) (p : Nat × Nat) (H' : Heap)
    (len : σ.length ≤ σ'.length) (hnew : new ∈ C ∨ σ.length ≤ new)
    (hO : ∀ q ∈ O, q.1 = s ∨ ∃ k ∈ C, m.F q.1 q.2 = some (k + 1)) (hZ : ∀ q ∈ Z, q ∉ O → q.1 = s ∨ ∃ k ∈ C, m.F q.1 q.2 = some (k + 1))
    (hH : ∀ t j, t ≠ s → (∀ k, m.F t j = some (k + 1) → k ∉ C) → H'.ob t j = m.H.ob t j)
    (hσ : ∀ id, id < σ.length → id ∉ C → σ'[id]? = σ[id]?)
    (hC : ∀ id ∈ C, id < σ.length → ∀ κ, kind σ' id = some κ → kind σ id = some κ ∧ reι m new p id = m.ι id ∧ ∀ o, m.at id = some o → ∃ o', H'.ob (m.ι id).1 (m.ι id).2 = some o' ∧ o'.g = o.g)
    (hob : Kp m σ ⟨reF m C O Z new, H', reι m new p⟩ σ' → ∀ id o, σ'[id]? = some o → (id ∈ C ∨ σ.length ≤ id) → OT ⟨reF m C O Z new, H', reι m new p⟩ σ' id o)
    (dom : ∀ q, (q ∈ O ∨ q ∈ Z) → ∃ o, H'.ob q.1 q.2 = some o) :
    St ⟨reF m C O Z new, H', reι m new p⟩ σ' ∧ Kp m σ ⟨reF m C O Z new, H', reι m new p⟩ σ' ∧ Fr m ⟨reF m C O Z new, H', reι m new p⟩ s := by
  have hns : ∀ t j k, m.F t j = some k → t ≠ s := fun t j k h e => by
    obtain ⟨o, ho⟩ := hS.dom t j k h
    rw [e] at ho; simp [Heap.ob, hs] at ho
  have hin : ∀ t j, t ≠ s → (∀ k, m.F t j = some (k + 1) → k ∉ C) → (t, j) ∉ O ∧ (t, j) ∉ Z := fun t j ht h => by
    have h1 : (t, j) ∉ O := fun c => by
      rcases hO _ c with e | ⟨k, hk, e⟩
      · exact ht e
      · exact h k e hk
    exact ⟨h1, fun c => by
      rcases hZ _ c h1 with e | ⟨k, hk, e⟩
      · exact ht e
      · exact h k e hk⟩
  have hFs : ∀ t j, t ≠ s → (∀ k, m.F t j = some (k + 1) → k ∉ C) → reF m C O Z new t j = m.F t j := fun t j ht h => by
    obtain ⟨h1, h2⟩ := hin t j ht h
    simp only [reF, if_neg h1, if_neg h2]
    split
    · rename_i k e; rw [if_neg (h k e)]; exact e.symm
    · rfl
  have h0 : ∀ t j, m.F t j = some 0 → ∀ k, m.F t j = some (k + 1) → k ∉ C := fun t j h k e => by rw [h] at e; injection e with e; omega
  have ho : ∀ id, id ∉ C → ∀ t j, m.F t j = some (id + 1) → ∀ k, m.F t j = some (k + 1) → k ∉ C := fun id hid t j h k e => by
    rw [h] at e; injection e with e; have : id = k := by omega
    rw [← this]; exact hid
  have hιs : ∀ id, id < σ.length → id ∉ C → reι m new p id = m.ι id := fun id h1 h2 => by
    unfold reι
    rw [if_neg (fun e => by
      rcases hnew with h | h
      · exact h2 (e ▸ h)
      · omega)]
  have kp : Kp m σ ⟨reF m C O Z new, H', reι m new p⟩ σ' := by
    refine ⟨fun t j h => ?_, len, fun id κ hid hk => ?_⟩
    · have ht := hns _ _ _ h
      exact ⟨(hFs t j ht (h0 t j h)).trans h, hH t j ht (h0 t j h)⟩
    · by_cases hc : id ∈ C
      · obtain ⟨a1, a2, a3⟩ := hC id hc hid κ hk
        refine ⟨a1, a2, fun o ho => ?_⟩
        obtain ⟨o', b1, b2⟩ := a3 o ho
        refine ⟨o', ?_, b2⟩
        unfold MS.at
        simp only [a2]
        exact b1
      · have hk' : kind σ id = some κ := by
          unfold kind at hk ⊢
          rw [hσ id hid hc] at hk; exact hk
        refine ⟨hk', hιs id hid hc, fun o hao => ⟨o, ?_, rfl⟩⟩
        unfold MS.at
        simp only [hιs id hid hc]
        obtain ⟨hF, _⟩ := OT.owner hS hk'
        have : ∀ k, m.F (m.ι id).1 (m.ι id).2 = some (k + 1) → k ∉ C := by
          rcases hF with h | h
          · exact ho id hc _ _ h
          · exact h0 _ _ h
        rw [hH _ _ (by rcases hF with h | h <;> exact hns _ _ _ h) this]
        exact hao
  refine ⟨⟨fun id o hid => ?_, fun t j k hk => ?_⟩, kp, fun t j ht h => ?_⟩
  · by_cases hc : id ∈ C ∨ σ.length ≤ id
    · exact hob kp id o hid hc
    · have hc1 : id ∉ C := fun c => hc (.inl c)
      have hc2 : id < σ.length := Nat.lt_of_not_le fun c => hc (.inr c)
      rw [hσ id hc2 hc1] at hid
      exact OT.keep kp (hιs id hc2 hc1) (fun t j h => by
        have ht := hns _ _ _ h
        exact ⟨(hFs t j ht (ho id hc1 t j h)).trans h, hH t j ht (ho id hc1 t j h)⟩) (hS.obj id o hid)
  · by_cases hO' : (t, j) ∈ O
    · exact dom _ (.inl hO')
    · by_cases hZ' : (t, j) ∈ Z
      · exact dom _ (.inr hZ')
      · simp only [reF, if_neg hO', if_neg hZ'] at hk
        have key : ∃ k', m.F t j = some k' ∧ ∀ k, m.F t j = some (k + 1) → k ∉ C := by
          split at hk
          · rename_i k' e
            split at hk
            · cases hk
            · rename_i hn
              exact ⟨_, e, fun k2 e2 => by
                rw [e] at e2; injection e2 with e2
                have : k' = k2 := by omega
                rw [← this]; exact hn⟩
          · rename_i hx
            exact ⟨k, hk, fun k2 e2 => (hx k2 e2).elim⟩
        obtain ⟨k', e, hn⟩ := key
        obtain ⟨o, hao⟩ := hS.dom t j k' e
        exact ⟨o, by simp only; rw [hH t j (hns _ _ _ e) hn]; exact hao⟩
  · have hn : ∀ k, m.F t j = some (k + 1) → k ∉ C := fun k e => (h k e).elim
    exact ⟨hH t j ht hn, hFs t j ht hn⟩
end
end Go.Proofs.YtffiddkignmobaaDoorTv
end
section
/- TV, part G: objects are made, frozen, appended to, written. -/
namespace Go.Proofs.YtffiddkignmobaaDoorTv
open Go.Proofs.YtffiddkignmobaaDoorVe
section
variable {m : MS} {σ : List Obj} {s : Nat}
theorem Sh.isCell {G : Nat → Nat → Prop} {H : Heap} : ∀ {t : Ty} {x : t.den} {cs : List AV}, Sh G H t x cs → ∀ a ∈ cs, a.isCell = true
  | .int k, x, cs, h, a, ha => by
    have e : cs = [.int k x] := h
    subst e; simp at ha; subst ha; rfl
  | .bool, x, cs, h, a, ha => by
    have e : cs = [.bool x] := h
    subst e; simp at ha; subst ha; rfl
  | .fnil, x, cs, h, a, ha => by
    have e : cs = [.nilf] := h
    subst e; simp at ha; subst ha; rfl
  | .str, x, cs, h, a, ha => by
    have e : cs = [.str x] := h
    subst e; simp at ha; subst ha; rfl
  | .unit, x, cs, h, a, ha => by
    have e : cs = [] := h
    subst e; simp at ha
  | .pair p q, x, cs, h, a, ha => by
    obtain ⟨c1, c2, rfl, h1, h2⟩ := h
    rcases List.mem_append.1 ha with h3 | h3
    · exact Sh.isCell h1 a h3
    · exact Sh.isCell h2 a h3
  | .list t, x, cs, h, a, ha => by
    obtain ⟨b, ch, rfl, h1, _⟩ := h
    simp at ha; subst ha
    cases a <;> simp_all [isSl, AV.isCell]
theorem VT.live {v : V} {a : AV} (h : VT m σ v a) (hl : liveV σ v = true) : a.isCell = true ∧ a.cells = [a] := by
  have key : a.isCell = true → a.isCell = true ∧ a.cells = [a] := fun e => ⟨e, by cases a <;> simp_all [AV.isCell, AV.cells]⟩
  refine key ?_
  cases h with
  | val t x _ hs => exact hs.isCell a (by simp)
  | nil t => rfl
  | own id off n _ h1 h2 =>
    simp only [liveV] at hl
    split at hl
    · rename_i t e; obtain ⟨o, _, rfl⟩ := h2 t e; rfl
    · cases hl
  | pel id i _ h1 h2 =>
    simp only [liveV] at hl
    split at hl
    · rename_i t e; obtain ⟨o, _, rfl⟩ := h2 t e; rfl
    · cases hl
  | pcell id k _ h1 h2 =>
    simp only [liveV] at hl
    split at hl
    · rename_i e; obtain ⟨o, _, rfl⟩ := h2 e; rfl
    · cases hl
  | mp id _ h1 h2 =>
    simp only [liveV] at hl
    split at hl
    · rename_i e; obtain ⟨o, _, rfl⟩ := h2 e; rfl
    · cases hl
  | fn f cs as h => rfl
  | nilp => rfl
  | _ => simp [liveV] at hl
theorem VTL.live : ∀ {vs : List V} {as : List AV}, VTL m σ vs as → vs.all (liveV σ) = true → as.all AV.isCell = true
  | _, _, .nil, _ => rfl
  | _, _, .cons v a vs as h1 h2, h => by
    simp only [List.all_cons, Bool.and_eq_true] at h ⊢
    exact ⟨(h1.live h.1).1, VTL.live h2 h.2⟩
theorem VT.cells {v : V} {a : AV} (h : VT m σ v a) (hl : v.cells.all (liveV σ) = true) : VTL m σ v.cells a.cells ∧ a.cells.all AV.isCell = true := by
  have key : v.cells = [v] → VTL m σ v.cells a.cells ∧ a.cells.all AV.isCell = true := fun e => by
    rw [e] at hl ⊢
    simp only [List.all_cons, List.all_nil, Bool.and_true] at hl
    obtain ⟨h1, h2⟩ := h.live hl
    rw [h2]
    exact ⟨.cons _ _ _ _ h .nil, by simp [h1]⟩
  cases h with
  | agg cs as hv => exact ⟨hv, hv.live hl⟩
  | _ => exact key rfl
theorem zero_vt (m : MS) (σ : List Obj) : ∀ t : Ty, VTL m σ (zeroV t) (zeroA t)
  | .int k => .cons _ _ _ _ (VT.int 0) .nil
  | .bool => .cons _ _ _ _ (VT.bool false) .nil
  | .fnil => .cons _ _ _ _ (.val .fnil () _ rfl) .nil
  | .str => .cons _ _ _ _ (VT.str _) .nil
  | .list t => .cons _ _ _ _ (.nil t) .nil
  | .unit => .nil
  | .pair a b => (zero_vt m σ a).append (zero_vt m σ b)
theorem zeroA_cell : ∀ t : Ty, (zeroA t).all AV.isCell = true
  | .int k => rfl
  | .bool => rfl
  | .fnil => rfl
  | .str => rfl
  | .list t => rfl
  | .unit => rfl
  | .pair a b => by simp only [zeroA, List.all_append, zeroA_cell a, zeroA_cell b, Bool.and_self]
theorem zeroA_length : ∀ t : Ty, (zeroA t).length = t.z
  | .int k => rfl
  | .bool => rfl
  | .fnil => rfl
  | .str => rfl
  | .list t => rfl
  | .unit => rfl
  | .pair a b => by simp only [zeroA, List.length_append, zeroA_length a, zeroA_length b, Ty.z]
theorem zero_ow (H : Heap) : ∀ t : Ty, Ow H t (dflt t) (zeroA t) []
  | .int k => ⟨rfl, rfl⟩
  | .bool => ⟨rfl, rfl⟩
  | .fnil => ⟨rfl, rfl⟩
  | .str => ⟨rfl, rfl⟩
  | .list t => .inl ⟨rfl, rfl, rfl⟩
  | .unit => ⟨rfl, rfl⟩
  | .pair a b => ⟨_, _, [], [], rfl, rfl, zero_ow H a, zero_ow H b⟩
/-- The elements of an object, with what they look at. -/
theorem OT.foot {id : Nat} {t : Ty} {l : List t.den} {u : Bool} (h : OT m σ id (.arr t l u)) : ∃ g ch O, m.at id = some ⟨g, t.z, ch.flatten⟩ ∧ m.F (m.ι id).1 (m.ι id).2 = some (id + 1) ∧ (l.length : Int) ≤ most ∧ (∀ p ∈ O, m.F p.1 p.2 = some (id + 1)) ∧ m.ι id ∉ O ∧ (t.flat = true → O = []) ∧ (u = false → O = []) ∧ All2 (fun x c => Sh (fun s j => m.F s j = some 0 ∨ (s, j) ∈ O) m.H t x c) l ch := by
  cases u with
  | false =>
    obtain ⟨g, ch, h1, h2, h3, h4⟩ := h
    exact ⟨g, ch, [], h1, h2, h3, by simp, by simp, fun _ => rfl, fun _ => rfl, h4.mono fun x c _ _ k => k.keep fun s j g => ⟨.inl g, rfl⟩⟩
  | true =>
    obtain ⟨o, O, h1, h2, h3, h4⟩ := h
    rcases h2 with ⟨e, _⟩ | ⟨s, j, g, parts, e, ho, rfl, hl, hp⟩
    · simp at e
    · simp only [List.cons.injEq, AV.sl.injEq, and_true] at e
      obtain ⟨e1, e2, e3⟩ := e
      have hF := h4 (s, j) (by simp)
      rw [← e1, ← e2] at ho hF
      refine ⟨g, parts.map (·.1), (parts.map (·.2)).flatten, (by exact ho), hF, hl, fun p hp => h4 p (by simp [hp]), ?_, fun hf => ?_, by simp, ?_⟩
      · have := (List.nodup_cons.1 h3).1
        rw [← e1, ← e2] at this
        exact this
      · refine List.flatten_eq_nil_iff.2 fun x hx => ?_
        obtain ⟨p, hpp, rfl⟩ := List.mem_map.1 hx
        obtain ⟨i, hi⟩ := List.mem_iff_getElem?.1 hpp
        have h5 : i < parts.length := (List.getElem?_eq_some_iff.1 hi).1
        obtain ⟨y, hy, hs⟩ := hp.get (List.getElem?_eq_getElem (show i < l.length by rw [hp.length]; exact h5))
        rw [hi] at hy
        injection hy with hy
        subst hy
        exact Ow.flat hf hs
      · refine All2.map_right _ |>.2 (hp.mono fun x p _ hpp k => k.sh fun q hq => .inr ?_)
        simp only [List.mem_flatten, List.mem_map]
        exact ⟨p.2, ⟨p, hpp, rfl⟩, hq⟩
/-- An object of flat elements. -/
theorem OT.of_flat {id : Nat} {t : Ty} {l : List t.den} {u : Bool} {g : Nat} {ch : List (List AV)} {G : Nat → Nat → Prop} {H : Heap} (hf : t.flat = true) (h1 : m.at id = some ⟨g, t.z, ch.flatten⟩) (h2 : m.F (m.ι id).1 (m.ι id).2 = some (id + 1)) (h3 : (l.length : Int) ≤ most) (h4 : All2 (fun x c => Sh G H t x c) l ch) : OT m σ id (.arr t l u) := by
  cases u with
  | false => exact ⟨g, ch, h1, h2, h3, h4.mono fun x c _ _ k => by rw [k.enc hf]; exact enc_sh _ _ x hf⟩
  | true =>
    refine ⟨_, [m.ι id], h1, .inr ⟨_, _, g, ch.map fun c => (c, []), rfl, ?_, ?_, h3, ?_⟩, by simp, fun p hp => ?_⟩
    · have e : (ch.map fun c => (c, ([] : List (Nat × Nat)))).map (·.1) = ch := by simp [List.map_map, Function.comp_def]
      rw [e]; exact h1
    · have e : ((ch.map fun c => (c, ([] : List (Nat × Nat)))).map (·.2)).flatten = [] := by
        refine List.flatten_eq_nil_iff.2 fun x hx => ?_
        simp only [List.map_map, List.mem_map] at hx
        obtain ⟨_, _, rfl⟩ := hx
        rfl
      rw [e]
    · exact All2.map_right _ |>.2 (h4.mono fun x c _ _ k => k.ow hf)
    · simp only [List.mem_singleton] at hp
      subst hp; exact h2
/-- A new object. -/
def newM (m : MS) (s id : Nat) (ob : Ob) : MS := ⟨reF m [] [(s, 0)] [] id, m.H.upd s [ob], reι m id (s, 0)⟩
theorem newM_at (m : MS) (s id : Nat) (ob : Ob) : (newM m s id ob).at id = some ob := by simp [newM, MS.at, reι, Heap.ob_upd_same]
theorem newM_ι (m : MS) (s id : Nat) (ob : Ob) : (newM m s id ob).ι id = (s, 0) := by simp [newM, reι]
theorem newM_F (m : MS) (s id : Nat) (ob : Ob) : (newM m s id ob).F s 0 = some (id + 1) := by simp [newM, reF]
theorem new_step (hS : St m σ) (hs : m.H s = []) (o : Obj) (ob : Ob) (h : Kp m σ (newM m s σ.length ob) (σ ++ [o]) → OT (newM m s σ.length ob) (σ ++ [o]) σ.length o) :
    St (newM m s σ.length ob) (σ ++ [o]) ∧ Kp m σ (newM m s σ.length ob) (σ ++ [o]) ∧ Fr m (newM m s σ.length ob) s := by
  refine mk_step hS hs [] [(s, 0)] [] σ.length (s, 0) _ (by simp) (.inr (Nat.le_refl _)) (fun q hq => ?_) (fun q hq => by simp at hq) (fun t j ht _ => Heap.ob_upd_ne _ _ _ ht) (fun id h1 _ => List.getElem?_append_left h1) (fun id hid => by simp at hid) (fun kp id o' ho' hid => ?_) (fun q hq => ?_)
  · simp at hq; subst hq; exact .inl rfl
  · rcases hid with hid | hid
    · simp at hid
    · rw [List.getElem?_append_right hid] at ho'
      have : id = σ.length := by
        have := (List.getElem?_eq_some_iff.1 ho').1
        simp at this; omega
      subst this
      simp at ho'
      subst ho'
      exact h kp
  · simp at hq; subst hq; exact ⟨ob, by simp [Heap.ob_upd_same]⟩
theorem new_own {o : Obj} {ob : Ob} {t : Ty} (n : Nat) (hk : o.kind = some (some t)) (hg : ob.g = 0) : VT (newM m s σ.length ob) (σ ++ [o]) (.own σ.length 0 n) (.sl s 0 0 0 n) := by
  refine .own _ _ _ _ (by simp) fun t' ht' => ⟨ob, newM_at m s _ ob, ?_⟩
  rw [newM_ι, hg, Nat.zero_mul]
theorem new_cell {o : Obj} {ob : Ob} (hg : ob.g = 0) : VT (newM m s σ.length ob) (σ ++ [o]) (.pcell σ.length 0) (.ptr s 0 0 0) := by
  refine .pcell _ _ _ (by simp) fun _ => ⟨ob, newM_at m s _ ob, ?_⟩
  rw [newM_ι, hg]
/-- An object is frozen. -/
theorem freeze_step (hS : St m σ) (hs : m.H s = []) {id : Nat} {t : Ty} {l : List t.den} {u : Bool} (h : σ[id]? = some (.arr t l u)) :
    ∃ m', m'.H = m.H ∧ St m' (σ.set id (.frz t l)) ∧ Kp m σ m' (σ.set id (.frz t l)) ∧ Fr m m' s := by
  obtain ⟨g, ch, O, h1, h2, h3, h4, h5, _, _, h6⟩ := (hS.obj id _ h).foot
  have hid : id < σ.length := (List.getElem?_eq_some_iff.1 h).1
  have hι : reι m id (m.ι id) id = m.ι id := by simp [reι]
  have hat : (⟨reF m [id] [] (m.ι id :: O) id, m.H, reι m id (m.ι id)⟩ : MS).at id = m.at id := by unfold MS.at; simp only [hι]
  suffices hh : _ from ⟨⟨reF m [id] [] (m.ι id :: O) id, m.H, reι m id (m.ι id)⟩, rfl, hh⟩
  refine mk_step hS hs [id] [] (m.ι id :: O) id (m.ι id) m.H (σ' := σ.set id (.frz t l)) (by simp) (.inl (by simp)) (by simp)
    (fun q hq _ => .inr ⟨id, by simp, by
      rcases List.mem_cons.1 hq with rfl | hq
      · exact h2
      · exact h4 q hq⟩) (fun _ _ _ _ => rfl) (fun i _ hi => by
      simp at hi
      rw [List.getElem?_set_ne (fun e => hi e.symm)]) (fun i hi _ κ hk => by
      simp at hi; subst hi
      simp [kind, hid, Obj.kind] at hk
      subst hk
      exact ⟨kind_arr h, hι, fun o ho => ⟨o, ho, rfl⟩⟩) (fun kp i o ho hi => ?_) (fun q hq => ?_)
  · have : i = id := by
      rcases hi with hi | hi
      · simpa using hi
      · have := (List.getElem?_eq_some_iff.1 ho).1
        simp at this; omega
    subst this
    simp [hid] at ho
    subst ho
    refine ⟨g, ch, hat.trans h1, ?_, h3, h6.mono fun x c _ _ k => k.keep fun s' j' hg => ⟨?_, rfl⟩⟩
    · simp [hι, reF]
    · rcases hg with hg | hg
      · show reF m [i] [] (m.ι i :: O) i s' j' = some 0
        unfold reF
        simp only [List.not_mem_nil, if_false]
        split
        · rfl
        · rw [hg]
      · show reF m [i] [] (m.ι i :: O) i s' j' = some 0
        unfold reF
        simp [hg]
  · rcases hq with hq | hq
    · simp at hq
    · rcases List.mem_cons.1 hq with rfl | hq
      · exact hS.dom _ _ _ h2
      · exact hS.dom _ _ _ (h4 q hq)
theorem Fr.trans {m m' m2 : MS} {s : Nat} (h : Fr m m' s) (k : Fr m' m2 s) : Fr m m2 s := fun t j ht hn => by
  obtain ⟨h1, h2⟩ := h t j ht hn
  obtain ⟨k1, k2⟩ := k t j ht fun i e => hn i (h2 ▸ e)
  exact ⟨k1.trans h1, k2.trans h2⟩
/-- A slice is read and frozen. -/
theorem Rd_frz (hS : St m σ) (hs : m.H s = []) {t : Ty} {v : V} {a : AV} {k : List t.den → Prop} (h : Rd σ t v k) (hv : VT m σ v a) :
    ∃ xs m', k xs ∧ m'.H = m.H ∧ St m' (frzV σ v) ∧ Kp m σ m' (frzV σ v) ∧ Fr m m' s ∧ Sh m'.fz m'.H (.list t) xs [a] := by
  unfold Rd at h
  split at h
  · rename_i t' x'
    obtain ⟨xs, e, hk⟩ := h
    rw [e] at hv
    cases hv with
    | val _ _ _ hs' => exact ⟨xs, m, hk, rfl, hS, Kp.refl m σ, Fr.refl m s, hs'⟩
  · cases hv
    exact ⟨[], m, h, rfl, hS, Kp.refl m σ, Fr.refl m s, .nil, [], rfl, rfl, rfl, rfl, trivial, by simp [most], trivial⟩
  · rename_i id off n
    split at h
    · obtain ⟨xs, u, e, hn, hk⟩ := h
      obtain ⟨m', e1, h1, h2, h3⟩ := freeze_step hS hs e
      have hid : id < σ.length := (List.getElem?_eq_some_iff.1 e).1
      have hf : frzV σ (.own id off n) = σ.set id (.frz t xs) := by simp only [frzV, e]
      refine ⟨_, m', hk, e1, by rw [hf]; exact h1, by rw [hf]; exact h2, h3, ?_⟩
      have he : (σ.set id (.frz t xs))[id]? = some (.frz t xs) := by simp [hid]
      obtain ⟨g, ch, k1, k2, k3, k4⟩ := (h1.obj id _ he).frz
      obtain ⟨o, k5, rfl⟩ := (hv.keep h2).own_inv (kind_frz he)
      rw [k1] at k5
      injection k5 with k5
      subst k5
      exact sub_sh k1 k2 hn k3 k4
    · obtain ⟨xs, e, hn, hk⟩ := h
      have hf : frzV σ (.own id off n) = σ := by simp only [frzV, e]
      obtain ⟨g, ch, h1, h2, h3, h4⟩ := (hS.obj id _ e).frz
      obtain ⟨o, k1, rfl⟩ := hv.own_inv (kind_frz e)
      rw [h1] at k1
      injection k1 with k1
      subst k1
      exact ⟨_, m, hk, rfl, by rw [hf]; exact hS, by rw [hf]; exact Kp.refl m σ, Fr.refl m s, sub_sh h1 h2 hn h3 h4⟩
    · exact h.elim
  · exact h.elim
theorem valRows_sound {t : Ty} : ∀ {vs : List V} {as : List AV} {m : MS} {σ : List Obj} {k : List (List t.den) → List Obj → Prop}, St m σ → m.H s = [] → valRows t vs σ k → VTL m σ vs as →
    ∃ ls σ' m', k ls σ' ∧ m'.H = m.H ∧ St m' σ' ∧ Kp m σ m' σ' ∧ Fr m m' s ∧ All2 (fun x a => Sh m'.fz m'.H (.list t) x [a]) ls as
  | [], _, m, σ, k, hS, hs, h, .nil => ⟨[], σ, m, h, rfl, hS, Kp.refl m σ, Fr.refl m s, trivial⟩
  | v :: vs, _, m, σ, k, hS, hs, h, .cons _ a _ as h1 h2 => by
    obtain ⟨xs, m1, k1, k2, k3, k4, k5, k6⟩ := Rd_frz hS hs h h1
    obtain ⟨ls, σ', m', j1, j2, j3, j4, j5, j6⟩ := valRows_sound k3 (by rw [k2]; exact hs) k1 (h2.keep k4)
    exact ⟨xs :: ls, σ', m', j1, j2.trans k2, j3, k4.trans j4, k5.trans j5, k6.keep j4.fz, j6⟩
end
end Go.Proofs.YtffiddkignmobaaDoorTv
end
section
/- TV, part I: variables, slices that are made. -/
namespace Go.Proofs.YtffiddkignmobaaDoorTv
open Go.Proofs.YtffiddkignmobaaDoorVe
section
variable {P : Program} {tab : List (Nat × TE)} {m : MS} {σ : List Obj} {s : Nat} {ρ : Operand → V} {ρv : Operand → AV} {K : V → List Obj → Prop}
theorem alloc_sound (hT : TabOk P tab) (hS : St m σ) (hs : m.H s = []) {t : TypeId} {e : TE} (ht : look tab t = some e) (h : K (.pcell σ.length 0) (σ ++ [.vars (zeroV e.ty)])) : Snd P m σ s ρv (.alloc t) K := by
  obtain ⟨h1, _⟩ := hT t e ht
  obtain ⟨r1, r2, r3⟩ := new_step hS hs (.vars (zeroV e.ty)) ⟨0, 0, zeroA e.ty⟩ fun kp => ⟨0, ⟨0, rfl⟩, zeroA e.ty, newM_at _ _ _ _, by rw [newM_ι]; exact newM_F _ _ _ _, zero_vt _ _ _⟩
  exact ⟨.ptr s 0 0 0, _, by simp only [opE, h1, zeroA_cell, if_true]; rfl, _, _, newM m s σ.length ⟨0, 0, zeroA e.ty⟩, rfl, ⟨r1, r2, r3, new_cell rfl⟩, h⟩
theorem box_sound (hS : St m σ) (hs : m.H s = []) {t : TypeId} {x : Operand} (hx : VT m σ (ρ x) (ρv x)) (hl : (ρ x).cells.all (liveV σ) = true) (h : K (.pcell σ.length 0) (σ ++ [.vars (ρ x).cells])) : Snd P m σ s ρv (.box t x) K := by
  obtain ⟨h1, h2⟩ := hx.cells hl
  obtain ⟨r1, r2, r3⟩ := new_step hS hs (.vars (ρ x).cells) ⟨0, 0, (ρv x).cells⟩ fun kp => ⟨0, ⟨0, rfl⟩, _, newM_at _ _ _ _, by rw [newM_ι]; exact newM_F _ _ _ _, h1.keep kp⟩
  exact ⟨.ptr s 0 0 0, _, by simp only [opE, h2, if_true]; rfl, _, _, newM m s σ.length ⟨0, 0, (ρv x).cells⟩, rfl, ⟨r1, r2, r3, new_cell rfl⟩, h⟩
theorem dOk_list {t : Ty} {e : TE} (h : dOk tab e) (he : e.ty = .list t) : ∃ el e', e.d = .sl el ∧ look tab el = some e' ∧ e'.ty = t ∧ e'.bytes ≤ 128 ∧ e'.bytes ≠ 0 ∧ t.z ≠ 0 := by
  unfold dOk at h
  rw [he] at h
  cases hd : e.d <;> simp only [hd] at h
  obtain ⟨e', h1, h2, h3, h4, h5⟩ := h
  exact ⟨_, e', rfl, h1, h2, h3, h4, h5⟩
/-- The type of a slice and that of its elements. -/
theorem tab_list (hT : TabOk P tab) {t : TypeId} {e : TE} {t' : Ty} (ht : look tab t = some e) (he : e.ty = .list t') : ∃ el d b by', ti P t = some ⟨.sl el, 1, b, [.nil]⟩ ∧ ti P el = some ⟨d, t'.z, by', zeroA t'⟩ ∧ by' ≤ 128 ∧ by' ≠ 0 ∧ t'.z ≠ 0 ∧ ∃ e', look tab el = some e' ∧ e'.ty = t' := by
  obtain ⟨h1, h2⟩ := hT t e ht
  obtain ⟨el, e', k1, k2, k3, k4, k5, k6⟩ := dOk_list h2 he
  obtain ⟨h3, _⟩ := hT el e' k2
  subst k3
  rw [k1, he] at h1
  exact ⟨el, e'.d, e.bytes, e'.bytes, h1, h3, k4, k5, k6, e', k2, rfl⟩
theorem zero_all (t : Ty) (n : Nat) (H : Heap) : All2 (fun x p => Ow H t x p.1 p.2) (List.replicate n (dflt t)) (List.replicate n (zeroA t, ([] : List (Nat × Nat)))) := All2.replicate (R := fun x (p : List AV × List (Nat × Nat)) => Ow H t x p.1 p.2) (zero_ow H t) n
theorem flatten_nil {α : Type} (n : Nat) : (List.replicate n ([] : List α)).flatten = [] := by
  refine List.flatten_eq_nil_iff.2 fun x hx => ?_
  exact (List.mem_replicate.1 hx).2
/-- A new slice whose elements hold no objects. -/
theorem newarr_step (hS : St m σ) (hs : m.H s = []) {t : Ty} {l : List t.den} {ch : List (List AV)} (hl : (l.length : Int) ≤ most) (h : ∀ H', (∀ t j, t ≠ s → H'.ob t j = m.H.ob t j) → All2 (fun x c => Ow H' t x c []) l ch) {o : Ob} (ho : o = ⟨0, t.z, ch.flatten⟩) :
    Step m σ s (.own σ.length 0 l.length) (.sl s 0 0 0 l.length) (newM m s σ.length o) (σ ++ [.arr t l true]) := by
  subst ho
  obtain ⟨r1, r2, r3⟩ := new_step hS hs (.arr t l true) ⟨0, t.z, ch.flatten⟩ fun kp => by
    refine ⟨_, [(s, 0)], newM_at _ _ _ _, .inr ⟨s, 0, 0, ch.map fun c => (c, []), ?_, ?_, ?_, hl, ?_⟩, by simp, fun p hp => ?_⟩
    · rw [newM_ι]
    · have e : (ch.map fun c => (c, ([] : List (Nat × Nat)))).map (·.1) = ch := by simp [List.map_map, Function.comp_def]
      rw [e]; simp [newM, Heap.ob_upd_same]
    · have e : ((ch.map fun c => (c, ([] : List (Nat × Nat)))).map (·.2)).flatten = [] := by
        refine List.flatten_eq_nil_iff.2 fun x hx => ?_
        simp only [List.map_map, List.mem_map] at hx
        obtain ⟨_, _, rfl⟩ := hx
        rfl
      rw [e]
    · exact All2.map_right _ |>.2 (h _ fun t j ht => Heap.ob_upd_ne _ _ _ ht)
    · simp at hp; subst hp; exact newM_F _ _ _ _
  exact ⟨r1, r2, r3, new_own _ rfl rfl⟩
theorem make_sound (hT : TabOk P tab) (hS : St m σ) (hs : m.H s = []) {t : TypeId} {e : TE} {t' : Ty} (ht : look tab t = some e) (he : e.ty = .list t') {l c : Operand} {n : Int} (hl : ρv l = .int .i64 n) (hc : ρv c = .int .i64 n) (h0 : 0 ≤ n) (h1 : n ≤ most)
    (h : K (.own σ.length 0 n.toNat) (σ ++ [.arr t' (List.replicate n.toNat (dflt t')) true])) : Snd P m σ s ρv (.makeSlice t l c) K := by
  obtain ⟨el, d, b, by', h2, h3, h4, h5, h6, _⟩ := tab_list hT ht he
  have hb : n.toNat * by' ≤ 140737488355328 := by
    have a1 : n.toNat * by' ≤ n.toNat * 128 := Nat.mul_le_mul_left _ h4
    simp only [most] at h1
    omega
  have st := newarr_step hS hs (t := t') (l := List.replicate n.toNat (dflt t')) (ch := List.replicate n.toNat (zeroA t')) (by simp; omega) (fun H' _ => All2.replicate (R := fun x c => Ow H' t' x c []) (zero_ow H' t') _) (o := ⟨0, t'.z, (List.replicate n.toNat (zeroA t')).flatten⟩) rfl
  simp only [List.length_replicate] at st
  simp only [most] at h1
  refine ⟨.sl s 0 0 0 n.toNat, _, ?_, _, _, _, rfl, st, h⟩
  simp only [opE, h2, hl, hc, h3]
  rw [if_pos ⟨trivial, h0, hb, by omega, zeroA_length t', h6, zeroA_cell t'⟩]
  rfl
theorem elV_sound {t : Ty} {v : V} {a : AV} {k : t.den → Prop} (h : elC t v.cells fun x r => r = [] ∧ k x) (hv : VT m σ v a) : ∃ x, Sh m.fz m.H t x a.cells ∧ k x ∧ a.ok = true := by
  have key : v.cells = [v] → ∃ x, Sh m.fz m.H t x a.cells ∧ k x ∧ a.ok = true := fun e => by
    rw [e] at h
    obtain ⟨x, as1, as2, r, e2, h1, h2, rfl, h4⟩ := elC_sound h (.cons _ _ _ _ hv .nil)
    cases h2
    simp at e2
    subst e2
    have hc := h1.isCell a (by simp)
    have : a.cells = [a] := by cases a <;> simp_all [AV.isCell, AV.cells]
    exact ⟨x, by rw [this]; exact h1, h4, by cases a <;> simp_all [AV.isCell, AV.ok]⟩
  cases hv with
  | agg cs as hv =>
    obtain ⟨x, as1, as2, r, e2, h1, h2, rfl, h4⟩ := elC_sound h hv
    cases h2
    simp at e2
    subst e2
    exact ⟨x, h1, h4, rfl⟩
  | _ => exact key rfl
theorem elemsC_sound {t : Ty} : ∀ {vs : List V} {as : List AV} {k : List t.den → Prop}, elemsC t vs k → VTL m σ vs as → ∃ xs, k xs ∧ All2 (fun x c => Sh m.fz m.H t x c) xs (as.map AV.cells) ∧ ∀ a ∈ as, a.ok = true
  | [], _, k, h, .nil => ⟨[], h, trivial, by simp⟩
  | v :: vs, _, k, h, .cons _ a _ as h1 h2 => by
    obtain ⟨x, k1, k2, k3⟩ := elV_sound (k := fun x => elemsC t vs fun xs => k (x :: xs)) h h1
    obtain ⟨xs, j1, j2, j3⟩ := elemsC_sound k2 h2
    exact ⟨x :: xs, j1, ⟨k1, j2⟩, fun b hb => by
      rcases List.mem_cons.1 hb with rfl | hb
      · exact k3
      · exact j3 b hb⟩
theorem fillA_seq {z : Nat} (hz : z ≠ 0) : ∀ (as : List AV) (i : Nat) (dn rest : List AV), (∀ a ∈ as, a.cells.length = z ∧ a.ok = true) → dn.length = i * z → rest.length = as.length * z →
    fillA (fun i => some (i * z, z)) (dn ++ rest) ((List.range' i as.length).zip as) = some (dn ++ (as.map AV.cells).flatten)
  | [], i, dn, rest, _, h1, h2 => by
    have : rest = [] := List.length_eq_zero_iff.1 (by simpa using h2)
    subst this
    simp [fillA]
  | a :: as, i, dn, rest, ha, h1, h2 => by
    obtain ⟨a1, a2⟩ := ha a (by simp)
    simp only [List.length_cons] at h2
    simp only [List.length_cons, List.range'_succ, List.zip_cons_cons, fillA, a1]
    rw [Nat.succ_mul] at h2
    rw [if_neg (by simp [a2]; omega)]
    have e1 : (dn ++ rest).take (i * z) = dn := by rw [← h1]; simp
    have e2 : (dn ++ rest).drop (i * z + z) = rest.drop z := by rw [← h1, List.drop_append, List.drop_of_length_le (by omega)]; simp
    rw [e1, e2]
    rw [fillA_seq hz as (i + 1) (dn ++ a.cells) (rest.drop z) (fun b hb => ha b (by simp [hb])) (by simp [h1, a1, Nat.succ_mul]) (by simp; omega)]
    simp
theorem map_zip {α β : Type} : ∀ (l : List (α × β)), l = (l.map (·.1)).zip (l.map (·.2))
  | [] => rfl
  | (a, b) :: l => by simp [← map_zip l]
theorem cells_flat_length {z : Nat} {as : List AV} (h : ∀ a ∈ as, a.cells.length = z) : (as.map AV.cells).flatten.length = as.length * z := by
  have := flatten_length (l := as.map AV.cells) (z := z) (fun c hc => by
    obtain ⟨a, ha, rfl⟩ := List.mem_map.1 hc
    exact h a ha)
  simpa using this
theorem build_op (hT : TabOk P tab) {t : TypeId} {e : TE} {t' : Ty} (ht : look tab t = some e) (he : e.ty = .list t') {n : Nat} {ps : Array (Nat × Operand)} (hn : n * t'.z ≤ 4096) (hp : ps.toList.map (·.1) = List.range n) {H : Heap} (has : ∀ a ∈ ps.toList.map (fun p => ρv p.2), a.cells.length = t'.z ∧ a.ok = true ∧ a.cells.all AV.isCell = true) :
    opE P s ρv H (.buildSlice t n ps) = some (.sl s 0 0 0 n, H.upd s [⟨0, t'.z, ((ps.toList.map fun p => ρv p.2).map AV.cells).flatten⟩]) ∧ (ps.toList.map fun p => ρv p.2).length = n := by
  obtain ⟨el, d, b, by', h2, h3, h4, h5, h6, _⟩ := tab_list hT ht he
  have hlen : ps.toList.length = n := by simpa using congrArg List.length hp
  refine ⟨?_, by simpa using hlen⟩
  simp only [opE, h2, h3]
  rw [if_neg (by rw [zeroA_length]; omega)]
  have e1 : (ps.toList.map fun p => (p.1, ρv p.2)) = (List.range' 0 (ps.toList.map fun p => ρv p.2).length).zip (ps.toList.map fun p => ρv p.2) := by
    have e2 := map_zip (ps.toList.map fun p => (p.1, ρv p.2))
    rw [e2]
    congr 1
    · simp only [List.map_map, List.length_map]
      rw [hlen, ← List.range_eq_range', ← hp]
      rfl
    · simp only [List.map_map]; rfl
  have e3 := fillA_seq (z := t'.z) h6 (ps.toList.map fun p => ρv p.2) 0 [] (List.replicate n (zeroA t')).flatten (fun a ha => ⟨(has a ha).1, (has a ha).2.1⟩) (by simp) (by
    rw [flatten_length (z := t'.z) (fun c hc => by rw [(List.mem_replicate.1 hc).2]; exact zeroA_length t')]
    simp only [List.length_replicate, List.length_map, hlen])
  rw [e1]
  simp only [List.nil_append] at e3
  rw [e3]
  simp only
  rw [if_pos (by
    refine List.all_eq_true.2 fun a ha => ?_
    obtain ⟨c, hc, hac⟩ := List.mem_flatten.1 ha
    obtain ⟨b, hb, rfl⟩ := List.mem_map.1 hc
    exact List.all_eq_true.1 (has b hb).2.2 a hac)]
theorem buildFlat_sound (hT : TabOk P tab) (hS : St m σ) (hs : m.H s = []) {t : TypeId} {e : TE} {t' : Ty} (ht : look tab t = some e) (he : e.ty = .list t') (hf : t'.flat = true) {n : Nat} {ps : Array (Nat × Operand)} (hn : n * t'.z ≤ 4096) (hp : ps.toList.map (·.1) = List.range n) (hv : VTL m σ (ps.toList.map fun p => ρ p.2) (ps.toList.map fun p => ρv p.2))
    (h : elemsC t' (ps.toList.map fun p => ρ p.2) fun xs => K (.own σ.length 0 xs.length) (σ ++ [.arr t' xs true])) : Snd P m σ s ρv (.buildSlice t n ps) K := by
  obtain ⟨xs, h1, h2, h3⟩ := elemsC_sound h hv
  obtain ⟨_, _, _, _, _, _, _, _, hz, _⟩ := tab_list hT ht he
  obtain ⟨k1, k2⟩ := build_op (s := s) (H := m.H) hT ht he hn hp (ρv := ρv) fun a ha => by
    have hc : a.cells.length = t'.z := h2.chunk _ (List.mem_map.2 ⟨a, ha, rfl⟩)
    refine ⟨hc, h3 a ha, List.all_eq_true.2 fun b hb => ?_⟩
    obtain ⟨i, hi⟩ := List.mem_iff_getElem?.1 ha
    obtain ⟨y, hy, hsh⟩ : ∃ y, xs[i]? = some y ∧ Sh m.fz m.H t' y a.cells := by
      have hi2 : i < xs.length := by
        rw [h2.length]; simpa using (List.getElem?_eq_some_iff.1 hi).1
      obtain ⟨c, hc, hcs⟩ := h2.get (List.getElem?_eq_getElem hi2)
      rw [List.getElem?_map, hi] at hc
      simp at hc
      subst hc
      exact ⟨_, List.getElem?_eq_getElem hi2, hcs⟩
    exact hsh.isCell b hb
  have hl : xs.length = n := by rw [h2.length]; simpa using k2
  have st := newarr_step hS hs (t := t') (l := xs) (ch := (ps.toList.map fun p => ρv p.2).map AV.cells) (by
    rw [hl]; simp only [most]
    have : n ≤ n * t'.z := Nat.le_mul_of_pos_right n (Nat.pos_of_ne_zero hz)
    omega) (fun H' _ => h2.mono fun x c _ _ k => k.ow hf) rfl
  rw [hl] at st h1
  exact ⟨_, _, k1, _, _, _, rfl, st, h1⟩
end
end Go.Proofs.YtffiddkignmobaaDoorTv
end
section
/- TV, part J: rows of rows that are made; appending. -/
namespace Go.Proofs.YtffiddkignmobaaDoorTv
open Go.Proofs.YtffiddkignmobaaDoorVe
def goneL (σ : List Obj) (ids : List Nat) : List Obj := ids.foldl (fun σ id => σ.set id .gone) σ
theorem goneL_length : ∀ (ids : List Nat) (σ : List Obj), (goneL σ ids).length = σ.length
  | [], σ => rfl
  | i :: ids, σ => by
    show (goneL (σ.set i .gone) ids).length = _
    rw [goneL_length ids]; simp
theorem goneL_other : ∀ (ids : List Nat) (σ : List Obj) {j : Nat}, j ∉ ids → (goneL σ ids)[j]? = σ[j]?
  | [], σ, j, _ => rfl
  | i :: ids, σ, j, h => by
    show (goneL (σ.set i .gone) ids)[j]? = _
    rw [goneL_other ids _ (fun c => h (by simp [c])), List.getElem?_set_ne (fun e => h (by simp [e]))]
theorem goneL_in : ∀ (ids : List Nat) (σ : List Obj) {j : Nat}, j ∈ ids → (goneL σ ids)[j]? = none ∨ (goneL σ ids)[j]? = some .gone
  | i :: ids, σ, j, h => by
    show (goneL (σ.set i .gone) ids)[j]? = _ ∨ (goneL (σ.set i .gone) ids)[j]? = _
    by_cases hj : j ∈ ids
    · exact goneL_in ids _ hj
    · rw [goneL_other ids _ hj]
      have : j = i := by simpa [hj] using h
      subst this
      by_cases hl : j < σ.length
      · right; simp [hl]
      · left; simp; omega
section
variable {P : Program} {tab : List (Nat × TE)} {m : MS} {σ : List Obj} {s : Nat} {ρ : Operand → V} {ρv : Operand → AV} {K : V → List Obj → Prop}
/-- A new object, for which others are let go. -/
theorem cons_step (hS : St m σ) (hs : m.H s = []) (C : List Nat) (O Z : List (Nat × Nat)) (p : Nat × Nat) (H' : Heap) (o : Obj)
    (hO : ∀ q ∈ O, q.1 = s ∨ ∃ k ∈ C, m.F q.1 q.2 = some (k + 1)) (hZ : ∀ q ∈ Z, q ∉ O → q.1 = s ∨ ∃ k ∈ C, m.F q.1 q.2 = some (k + 1))
    (hH : ∀ t j, t ≠ s → (∀ k, m.F t j = some (k + 1) → k ∉ C) → H'.ob t j = m.H.ob t j)
    (hob : Kp m σ ⟨reF m C O Z σ.length, H', reι m σ.length p⟩ (goneL σ C ++ [o]) → OT ⟨reF m C O Z σ.length, H', reι m σ.length p⟩ (goneL σ C ++ [o]) σ.length o)
    (dom : ∀ q, (q ∈ O ∨ q ∈ Z) → ∃ o, H'.ob q.1 q.2 = some o) :
    St ⟨reF m C O Z σ.length, H', reι m σ.length p⟩ (goneL σ C ++ [o]) ∧ Kp m σ ⟨reF m C O Z σ.length, H', reι m σ.length p⟩ (goneL σ C ++ [o]) ∧ Fr m ⟨reF m C O Z σ.length, H', reι m σ.length p⟩ s := by
  have hlen := goneL_length C σ
  have hlt : ∀ id, id < σ.length → (goneL σ C ++ [o])[id]? = (goneL σ C)[id]? := fun id h => List.getElem?_append_left (by rw [hlen]; exact h)
  refine mk_step hS hs C O Z σ.length p H' (by simp [hlen]) (.inr (Nat.le_refl _)) hO hZ hH (fun id h1 h2 => ?_) (fun id hid hl κ hk => ?_) (fun kp id o' ho' hid => ?_) dom
  · rw [hlt id h1]; exact goneL_other C σ h2
  · unfold kind at hk
    rw [hlt id hl] at hk
    rcases goneL_in C σ hid with h | h <;> rw [h] at hk <;> simp [Obj.kind] at hk
  · by_cases hl : id < σ.length
    · rw [hlt id hl] at ho'
      have hid' : id ∈ C := hid.resolve_right (by omega)
      rcases goneL_in C σ hid' with h | h <;> rw [h] at ho'
      · cases ho'
      · injection ho' with e; subst e; trivial
    · have : id = σ.length := by
        have := (List.getElem?_eq_some_iff.1 ho').1
        simp [hlen] at this; omega
      subst this
      rw [List.getElem?_append_right (by rw [hlen]; exact Nat.le_refl _), hlen] at ho'
      simp at ho'
      subst ho'
      exact hob kp
theorem ownRows_sound {t : Ty} (hS : St m σ) : ∀ {vs : List V} {as : List AV} (dn : List Nat) {k : List (List t.den) → List Obj → Prop}, ownRows t vs (goneL σ dn) k → VTL m σ vs as →
    ∃ ls ids, ∃ parts : List (List AV × List (Nat × Nat)), k ls (goneL (goneL σ dn) ids) ∧ All2 (fun l p => Ow m.H (.list t) l p.1 p.2) ls parts ∧ as.map AV.cells = parts.map (·.1) ∧
      (∀ q ∈ (parts.map (·.2)).flatten, ∃ id ∈ ids, m.F q.1 q.2 = some (id + 1)) ∧ ((parts.map (·.2)).flatten).Nodup ∧ (∀ id ∈ ids, id ∉ dn) ∧ ∀ a ∈ as, a.cells.length = 1 ∧ a.ok = true ∧ a.cells.all AV.isCell = true
  | [], _, dn, k, h, .nil => ⟨[], [], [], h, trivial, rfl, by simp, by simp, by simp, by simp⟩
  | v :: vs, _, dn, k, h, .cons _ a _ as h1 h2 => by
    cases v <;> simp only [ownRows] at h
    case nil t' =>
      cases h1
      obtain ⟨ls, ids, parts, k1, k2, k3, k4, k5, k6, k7⟩ := ownRows_sound hS dn (k := fun ls σ' => k ([] :: ls) σ') h h2
      exact ⟨[] :: ls, ids, ([.nil], []) :: parts, k1, ⟨.inl ⟨rfl, rfl, rfl⟩, k2⟩, by simp [AV.cells, k3], by simpa using k4, by simpa using k5, k6, fun b hb => by
        rcases List.mem_cons.1 hb with rfl | hb
        · exact ⟨rfl, rfl, rfl⟩
        · exact k7 b hb⟩
    case own id off n =>
      obtain ⟨l, e1, rfl, rfl, h⟩ := h
      have hnd : id ∉ dn := fun c => by
        rcases goneL_in dn σ c with h | h <;> rw [h] at e1 <;> simp at e1
      have e2 : σ[id]? = some (.arr t l true) := by rw [← goneL_other dn σ hnd]; exact e1
      obtain ⟨o, O, o1, o2, o3, o4⟩ := hS.obj id _ e2
      have hsub : goneL σ (dn ++ [id]) = (goneL σ dn).set id .gone := by simp [goneL]
      rw [← hsub] at h
      obtain ⟨ls, ids, parts, k1, k2, k3, k4, k5, k6, k7⟩ := ownRows_sound hS (dn ++ [id]) (k := fun ls σ' => k (l :: ls) σ') h h2
      obtain ⟨o', p1, rfl⟩ := h1.own_inv (kind_arr e2)
      rw [o1] at p1
      injection p1 with p1
      subst p1
      rw [Nat.zero_mul]
      refine ⟨l :: ls, id :: ids, ([.sl (m.ι id).1 (m.ι id).2 o.g 0 l.length], O) :: parts, ?_, ⟨o2, k2⟩, by simp [AV.cells, k3], fun q hq => ?_, ?_, fun i hi => ?_, fun b hb => ?_⟩
      · rw [hsub] at k1; exact k1
      · simp only [List.map_cons, List.flatten_cons, List.mem_append] at hq
        rcases hq with hq | hq
        · exact ⟨id, by simp, o4 q hq⟩
        · obtain ⟨i, hi, hF⟩ := k4 q hq
          exact ⟨i, by simp [hi], hF⟩
      · simp only [List.map_cons, List.flatten_cons]
        refine List.nodup_append.2 ⟨o3, k5, fun q hq q' hq' e => ?_⟩
        subst e
        obtain ⟨i, hi, hF⟩ := k4 q hq'
        rw [o4 q hq] at hF
        injection hF with hF
        have : i = id := by omega
        subst this
        exact k6 i hi (by simp)
      · rcases List.mem_cons.1 hi with rfl | hi
        · exact hnd
        · exact fun c => k6 i hi (by simp [c])
      · rcases List.mem_cons.1 hb with rfl | hb
        · exact ⟨rfl, rfl, rfl⟩
        · exact k7 b hb
theorem buildOwn_sound (hT : TabOk P tab) (hS : St m σ) (hs : m.H s = []) {t : TypeId} {e : TE} {t' : Ty} (ht : look tab t = some e) (he : e.ty = .list (.list t')) {n : Nat} {ps : Array (Nat × Operand)} (hn : n * (Ty.list t').z ≤ 4096) (hp : ps.toList.map (·.1) = List.range n) (hv : VTL m σ (ps.toList.map fun p => ρ p.2) (ps.toList.map fun p => ρv p.2))
    (h : ownRows t' (ps.toList.map fun p => ρ p.2) σ fun ls σ' => K (.own σ'.length 0 ls.length) (σ' ++ [.arr (.list t') ls true])) : Snd P m σ s ρv (.buildSlice t n ps) K := by
  obtain ⟨ls, ids, parts, h1, h2, h3, h4, h5, _, h7⟩ := ownRows_sound hS [] h hv
  replace h1 : K (.own (goneL σ ids).length 0 ls.length) (goneL σ ids ++ [.arr (.list t') ls true]) := h1
  obtain ⟨k1, k2⟩ := build_op (s := s) (H := m.H) hT ht he hn hp (ρv := ρv) h7
  rw [h3] at k1
  have hl : ls.length = n := by
    rw [h2.length]
    have := congrArg List.length h3
    simp at this k2
    omega
  have hns : ∀ q ∈ (parts.map (·.2)).flatten, q.1 ≠ s := fun q hq e => by
    obtain ⟨id, _, hF⟩ := h4 q hq
    obtain ⟨o, ho⟩ := hS.dom _ _ _ hF
    rw [e] at ho; simp [Heap.ob, hs] at ho
  have hz : (Ty.list t').z = 1 := rfl
  obtain ⟨r1, r2, r3⟩ := cons_step hS hs ids ((s, 0) :: (parts.map (·.2)).flatten) [] (s, 0) (m.H.upd s [⟨0, (Ty.list t').z, (parts.map (·.1)).flatten⟩]) (.arr (.list t') ls true)
    (fun q hq => by
      rcases List.mem_cons.1 hq with rfl | hq
      · exact .inl rfl
      · exact .inr (h4 q hq)) (fun q hq => by simp at hq) (fun t j ht _ => Heap.ob_upd_ne _ _ _ ht)
    (fun kp => by
      refine ⟨_, (s, 0) :: (parts.map (·.2)).flatten, (by simp only [MS.at, reι, if_true, Heap.ob_upd_same]; rfl), .inr ⟨s, 0, 0, parts, ?_, ?_, rfl, by rw [hl]; rw [hz] at hn; simp only [most]; omega, ?_⟩, ?_, fun p hp => ?_⟩
      · simp only [reι, if_true]
      · simp [Heap.ob_upd_same]
      · refine h2.mono fun x p _ hpp k => k.keep fun q hq => ?_
        refine Heap.ob_upd_ne _ _ _ (hns q ?_)
        simp only [List.mem_flatten, List.mem_map]
        exact ⟨p.2, ⟨p, hpp, rfl⟩, hq⟩
      · exact List.nodup_cons.2 ⟨fun c => hns _ c rfl, h5⟩
      · simp only [reF, if_pos hp])
    (fun q hq => by
      rcases hq with hq | hq
      · rcases List.mem_cons.1 hq with rfl | hq
        · exact ⟨⟨0, (Ty.list t').z, (parts.map (·.1)).flatten⟩, by simp [Heap.ob_upd_same]⟩
        · obtain ⟨id, _, hF⟩ := h4 q hq
          obtain ⟨o, ho⟩ := hS.dom _ _ _ hF
          exact ⟨o, by rw [Heap.ob_upd_ne _ _ _ (hns q hq)]; exact ho⟩
      · simp at hq)
  have hgl : (goneL σ ids).length = σ.length := goneL_length _ _
  rw [hl, hgl] at h1
  exact ⟨_, _, k1, _, _, _, rfl, ⟨r1, r2, r3, .own _ _ _ _ (by simp [hgl]) fun t2 ht2 => ⟨_, (by simp only [MS.at, reι, if_true, Heap.ob_upd_same]; rfl), by simp [reι]⟩⟩, h1⟩
theorem buildVal_sound (hT : TabOk P tab) (hS : St m σ) (hs : m.H s = []) {t : TypeId} {e : TE} {t' : Ty} (ht : look tab t = some e) (he : e.ty = .list (.list t')) {n : Nat} {ps : Array (Nat × Operand)} (hn : n * (Ty.list t').z ≤ 4096) (hp : ps.toList.map (·.1) = List.range n) (hv : VTL m σ (ps.toList.map fun p => ρ p.2) (ps.toList.map fun p => ρv p.2))
    (h : valRows t' (ps.toList.map fun p => ρ p.2) σ fun ls σ' => K (.own σ'.length 0 ls.length) (σ' ++ [.arr (.list t') ls false])) : Snd P m σ s ρv (.buildSlice t n ps) K := by
  obtain ⟨ls, σ', m', h1, e1, h2, h3, h4, h5⟩ := valRows_sound hS hs h hv
  have hc : ∀ a ∈ ps.toList.map (fun p => ρv p.2), a.cells = [a] ∧ a.isCell = true := fun a ha => by
    obtain ⟨i, hi⟩ := List.mem_iff_getElem?.1 ha
    have hi2 : i < ls.length := by rw [h5.length]; exact (List.getElem?_eq_some_iff.1 hi).1
    obtain ⟨y, hy, hsh⟩ := h5.get (List.getElem?_eq_getElem hi2)
    rw [hi] at hy
    injection hy with hy
    subst hy
    have hc := hsh.isCell a (by simp)
    exact ⟨by cases a <;> simp_all [AV.isCell, AV.cells], hc⟩
  obtain ⟨k1, k2⟩ := build_op (s := s) (H := m.H) hT ht he hn hp (ρv := ρv) fun a ha => by
    obtain ⟨c1, c2⟩ := hc a ha
    exact ⟨by rw [c1]; rfl, by cases a <;> simp_all [AV.isCell, AV.ok], by rw [c1]; simp [c2]⟩
  have hl : ls.length = n := by rw [h5.length]; exact k2
  have hs' : m'.H s = [] := by rw [e1]; exact hs
  obtain ⟨r1, r2, r3⟩ := new_step h2 hs' (.arr (.list t') ls false) ⟨0, (Ty.list t').z, ((ps.toList.map fun p => ρv p.2).map AV.cells).flatten⟩ fun kp => by
    refine ⟨0, (ps.toList.map fun p => ρv p.2).map AV.cells, newM_at _ _ _ _, by rw [newM_ι]; exact newM_F _ _ _ _, by rw [hl]; rw [show (Ty.list t').z = 1 from rfl] at hn; simp only [most]; omega, ?_⟩
    refine All2.map_right _ |>.2 (h5.mono fun x a _ ha k => ?_)
    rw [(hc a ha).1]
    exact k.keep kp.fz
  rw [hl] at h1
  refine ⟨_, _, k1, _, _, newM m' s σ'.length ⟨0, (Ty.list t').z, ((ps.toList.map fun p => ρv p.2).map AV.cells).flatten⟩, by simp [newM, e1], ⟨r1, h3.trans r2, h4.trans r3, ?_⟩, h1⟩
  exact new_own n rfl rfl
end
end Go.Proofs.YtffiddkignmobaaDoorTv
end
