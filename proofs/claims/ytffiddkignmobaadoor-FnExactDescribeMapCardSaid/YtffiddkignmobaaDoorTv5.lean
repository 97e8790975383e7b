/- A typed weakest precondition over that logic, proved sound: for every program with a table of types that fits it. -/
import Derived.Test.YtffiddkignmobaaDoorTv4
import Derived.Deep.Slices
import Derived.ChangeShapes
import Derived.SizedLaws
set_option linter.unusedVariables false
set_option linter.unusedSimpArgs false
section
/- TV, part Ya: the walk's tactics, told once (as default proofs of arguments). -/
namespace Go.Proofs.YtffiddkignmobaaDoorTv
open Go.Proofs.YtffiddkignmobaaDoorVe
section
variable {P : Program} {tab : List (Nat × TE)} {ops : Array Oper} {o : Oper} {rest : List Oper} {E : EnvV} {σ : List Obj} {K : EnvV → List Obj → Prop} {Q : PostT} {k0 : Nat}
/-! One operation at a time, what follows kept out of sight: for regions with many conditions (there the kernel's comparison of what is left doubles with each). -/
theorem seqK {t : Nat} (hg : o.guard = none) (hd : o.dst = some t) (h : ∀ K' : V → List Obj → Prop, (∀ v σ', seqT P tab ops rest (EnvV.upd E t v) σ' K → K' v σ') → stepT P tab σ E o fun v σ' => force v fun v => forceL σ' fun σ' => K' v σ') : seqT P tab ops (o :: rest) E σ K := by
  unfold seqT guardT
  rw [hg]
  simp only [hd]
  exact h (fun v σ' => seqT P tab ops rest (EnvV.upd E t v) σ' K) fun _ _ h => h
theorem EnvV.upd_self {E : EnvV} {d : Nat} {v : V} (h : E d = v) : EnvV.upd E d v = E := by
  funext x
  unfold EnvV.upd
  split
  · rename_i e; subst e; exact h.symm
  · rfl
theorem seqKr {t j d : Nat} {w : Bool} (hg : o.guard = some (j, w)) (hj : (ops[j]?).bind (·.dst) = some d) (hE : E d = .val .bool w) (hd : o.dst = some t) (h : ∀ K' : V → List Obj → Prop, (∀ v σ', seqT P tab ops rest (EnvV.upd E t v) σ' K → K' v σ') → stepT P tab σ E o fun v σ' => force v fun v => forceL σ' fun σ' => K' v σ') : seqT P tab ops (o :: rest) E σ K := by
  have h1 := h (fun v σ' => seqT P tab ops rest (EnvV.upd E t v) σ' K) fun _ _ h => h
  unfold seqT guardT
  rw [hg]
  simp only [hj, hE, hd]
  cases w
  · exact brF rfl (by rw [EnvV.upd_self hE]; exact h1)
  · exact brT rfl (by rw [EnvV.upd_self hE]; exact h1)
theorem seqKs {t j d : Nat} {w : Bool} (hg : o.guard = some (j, w)) (hj : (ops[j]?).bind (·.dst) = some d) (hE : E d = .val .bool (!w)) (hd : o.dst = some t) (h : seqT P tab ops rest (EnvV.upd E t (.tup [])) σ K) : seqT P tab ops (o :: rest) E σ K := by
  unfold seqT guardT
  rw [hg]
  simp only [hj, hE, hd]
  cases w
  · exact brT rfl (by rw [show EnvV.upd E d (.val .bool true) = E from EnvV.upd_self hE]; exact h)
  · exact brF rfl (by rw [show EnvV.upd E d (.val .bool false) = E from EnvV.upd_self hE]; exact h)
theorem seqKu {t j d : Nat} {w : Bool} (hg : o.guard = some (j, w)) (hj : (ops[j]?).bind (·.dst) = some d) (hE : E d = .tup []) (hd : o.dst = some t) (h : seqT P tab ops rest (EnvV.upd E t (.tup [])) σ K) : seqT P tab ops (o :: rest) E σ K := by
  unfold seqT guardT
  rw [hg]
  simp only [hj, hE, hd]
  exact h
theorem seqKn (h : K E σ) : seqT P tab ops [] E σ K := h
theorem seqKz (hg : o.guard = none) (hd : o.dst = none) (h : ∀ K' : List Obj → Prop, (∀ σ', seqT P tab ops rest E σ' K → K' σ') → stepT P tab σ E o fun v σ' => force v fun _ => forceL σ' fun σ' => K' σ') : seqT P tab ops (o :: rest) E σ K := by
  unfold seqT guardT
  rw [hg]
  simp only [hd]
  exact h (fun σ' => seqT P tab ops rest E σ' K) fun _ h => h
section
variable {A : Nat → Nat} {i : Nat} {al : Al}
theorem drawK {t : Nat} (hg : o.guard = none) (hd : o.dst = some t) (h : ∀ K' : V → List Obj → Al → Prop, (∀ v σ' al', drawT P tab ops A (i + 1) al' rest (EnvV.upd E t v) σ' K → K' v σ' al') → stepDT P tab (cleanQ ops i) (late ops A i) (lateS ops A i) (stB ops o.op) ops.size A i al σ E o fun v σ' al' => force v fun v => forceL σ' fun σ' => K' v σ' al') : drawT P tab ops A i al (o :: rest) E σ K := by
  unfold drawT guardT
  rw [hg]
  simp only [hd]
  exact h (fun v σ' al' => drawT P tab ops A (i + 1) al' rest (EnvV.upd E t v) σ' K) fun _ _ _ h => h
theorem drawKz (hg : o.guard = none) (hd : o.dst = none) (h : ∀ K' : List Obj → Al → Prop, (∀ σ' al', drawT P tab ops A (i + 1) al' rest E σ' K → K' σ' al') → stepDT P tab (cleanQ ops i) (late ops A i) (lateS ops A i) (stB ops o.op) ops.size A i al σ E o fun v σ' al' => force v fun _ => forceL σ' fun σ' => K' σ' al') : drawT P tab ops A i al (o :: rest) E σ K := by
  unfold drawT guardT
  rw [hg]
  simp only [hd]
  exact h (fun σ' al' => drawT P tab ops A (i + 1) al' rest E σ' K) fun _ _ h => h
theorem drawKr {t j d : Nat} {w : Bool} (hg : o.guard = some (j, w)) (hj : (ops[j]?).bind (·.dst) = some d) (hE : E d = .val .bool w) (hd : o.dst = some t) (h : ∀ K' : V → List Obj → Al → Prop, (∀ v σ' al', drawT P tab ops A (i + 1) al' rest (EnvV.upd E t v) σ' K → K' v σ' al') → stepDT P tab (cleanQ ops i) (late ops A i) (lateS ops A i) (stB ops o.op) ops.size A i al σ E o fun v σ' al' => force v fun v => forceL σ' fun σ' => K' v σ' al') : drawT P tab ops A i al (o :: rest) E σ K := by
  have h1 := h (fun v σ' al' => drawT P tab ops A (i + 1) al' rest (EnvV.upd E t v) σ' K) fun _ _ _ h => h
  unfold drawT guardT
  rw [hg]
  simp only [hj, hE, hd]
  cases w
  · exact brF rfl (by rw [EnvV.upd_self hE]; exact h1)
  · exact brT rfl (by rw [EnvV.upd_self hE]; exact h1)
theorem drawKs {t j d : Nat} {w : Bool} (hg : o.guard = some (j, w)) (hj : (ops[j]?).bind (·.dst) = some d) (hE : E d = .val .bool (!w)) (hd : o.dst = some t) (h : drawT P tab ops A (i + 1) al rest (EnvV.upd E t (.tup [])) σ K) : drawT P tab ops A i al (o :: rest) E σ K := by
  unfold drawT guardT
  rw [hg]
  simp only [hj, hE, hd]
  cases w
  · exact brT rfl (by rw [show EnvV.upd E d (.val .bool true) = E from EnvV.upd_self hE]; exact h)
  · exact brF rfl (by rw [show EnvV.upd E d (.val .bool false) = E from EnvV.upd_self hE]; exact h)
theorem drawKu {t j d : Nat} {w : Bool} (hg : o.guard = some (j, w)) (hj : (ops[j]?).bind (·.dst) = some d) (hE : E d = .tup []) (hd : o.dst = some t) (h : drawT P tab ops A (i + 1) al rest (EnvV.upd E t (.tup [])) σ K) : drawT P tab ops A i al (o :: rest) E σ K := by
  unfold drawT guardT
  rw [hg]
  simp only [hj, hE, hd]
  exact h
theorem drawKn (h : K E σ) : drawT P tab ops A i al [] E σ K := h
end
theorem wpKd {id : Nat} (ho : okAll ops (anc ops) = true) (h : drawT P tab ops (anc ops) 0 [] ops.toList E σ fun E σ => Q .normal E σ) : wpT P tab k0 (.region id ops true) E σ Q := ⟨ho, h⟩
theorem wpKb {id : Nat} {c : Code} (h : wpT P tab k0 c E σ (PostT.blk Q id)) : wpT P tab k0 (.block id c) E σ Q := h
theorem wpKbn {id : Nat} (h : Q .normal E σ) : PostT.blk Q id .normal E σ := h
theorem wpKs {a b : Code} (h : wpT P tab k0 a E σ (PostT.seq Q fun E σ => wpT P tab k0 b E σ Q)) : wpT P tab k0 (.seq a b) E σ Q := h
theorem wpKr {id : Nat} (h : seqT P tab ops ops.toList E σ fun E σ => Q .normal E σ) : wpT P tab k0 (.region id ops false) E σ Q := h
theorem wpKt {c : Operand} {a b : Code} (hE : E.ev c = .val .bool true) (h : wpT P tab k0 a E σ Q) : wpT P tab k0 (.cond c a b) E σ Q := by
  unfold wpT
  rw [hE]
  exact brT rfl h
theorem wpKf {c : Operand} {a b : Code} (hE : E.ev c = .val .bool false) (h : wpT P tab k0 b E σ Q) : wpT P tab k0 (.cond c a b) E σ Q := by
  unfold wpT
  rw [hE]
  exact brF rfl h
theorem wpKk (h : Q .normal E σ) : wpT P tab k0 .skip E σ Q := h
theorem wpKn (h : K E σ) : PostT.seq Q K .normal E σ := h
end
/-- Any sentence (where none is given: True). -/
def AnyP (_ : Prop) : Prop := True
theorem anyT : AnyP True := trivial
theorem anyP {q : Prop} : AnyP q := trivial
/-- What is left (in a wrap, so that no tactic takes it for a fact). -/
structure Hid (q : Prop) : Prop where
  go : q
/-- Walk on. -/
theorem stp {p q : Prop} (x : q) (h : Hid q → p := by
    intro x
    (repeat ((conv => whnf); first
      | ((with_reducible refine OrW.fit ?_ ?_); focus (first | omega | (dsimp only; omega) | (simp; omega)))
      | ((with_reducible refine And.intro ?_ ?_); focus (first | (with_reducible show okAll _ _ = true; kernel_rfl) | (with_reducible show mapB _ _ _ = true; kernel_rfl) | ((with_reducible show List.all _ _ = true); rfl) | ((with_reducible show Nat.ble _ _ = true); rfl) | ((with_reducible show kind _ _ = _); rfl) | (with_reducible show (_ || _) = true; kernel_rfl) | (with_reducible show seen _ _ _ = true; kernel_rfl) | omega | (dsimp only; omega) | with_reducible rfl | exact True.intro | (simp; done) | (simp; omega) | rfl | exact .inl rfl | exact .inr rfl | (intro hq; simp at hq; done) | (show _ = _; kernel_rfl)))
      | ((with_reducible refine brT ?_ ?_); rfl)
      | ((with_reducible refine brF ?_ ?_); rfl)
      | ((with_reducible refine OrS.solo ?_ ?_); decide +kernel)
      | ((with_reducible refine OrS.anc ?_ ?_); kernel_rfl)
      | (refine Exists.intro _ (And.intro rfl ?_))
      | (refine Exists.intro _ (Exists.intro _ (And.intro rfl ?_)))))
    try (conv => whnf)
    try exact x.go) (_hq : AnyP q := by first | with_reducible exact anyT | exact anyP) : p := h ⟨x⟩
variable {P : Program} {f : Nat} {cargs vs : List V} {rs : V} {σ σ0 σ1 : List Obj} {K : V → List Obj → Prop} {q R : Prop}
/-- A call by a contract that makes what it gives. -/
theorem useT (hc : ConT P f cargs rs σ1) (x : q) (ha : argsFit σ vs cargs := by repeat (first | exact trivial | refine ⟨by first | exact rfl | exact trivial | exact ⟨_, rfl, rfl⟩ | exact ⟨_, _, rfl, by first | (simp; done) | (simp; omega), by first | (simp; done) | (simp [List.take_of_length_le]; done) | (rw [List.drop_zero]; exact List.take_of_length_le (by first | omega | (simp; omega))) | (simp [List.take_of_length_le]; omega)⟩ | exact ⟨_, rfl, by first | (simp; done) | (simp; omega), by first | (simp; done) | (simp [List.take_of_length_le]; done) | (rw [List.drop_zero]; exact List.take_of_length_le (by first | omega | (simp; omega))) | (simp [List.take_of_length_le]; omega)⟩, ?_⟩)) (h : Hid q → if (plainV rs && σ1.all Obj.plain) = true then K (rs.sh σ.length) (σ ++ σ1.map (Obj.sh σ.length)) else K (rs.sh σ.length) (frzs σ vs ++ σ1.map (Obj.sh σ.length)) := by
    intro x
    (repeat ((conv => whnf); first
      | ((with_reducible refine OrW.fit ?_ ?_); focus (first | omega | (dsimp only; omega) | (simp; omega)))
      | ((with_reducible refine And.intro ?_ ?_); focus (first | (with_reducible show okAll _ _ = true; kernel_rfl) | (with_reducible show mapB _ _ _ = true; kernel_rfl) | ((with_reducible show List.all _ _ = true); rfl) | ((with_reducible show Nat.ble _ _ = true); rfl) | ((with_reducible show kind _ _ = _); rfl) | (with_reducible show (_ || _) = true; kernel_rfl) | (with_reducible show seen _ _ _ = true; kernel_rfl) | omega | (dsimp only; omega) | with_reducible rfl | exact True.intro | (simp; done) | (simp; omega) | rfl | exact .inl rfl | exact .inr rfl | (intro hq; simp at hq; done) | (show _ = _; kernel_rfl)))
      | ((with_reducible refine brT ?_ ?_); rfl)
      | ((with_reducible refine brF ?_ ?_); rfl)
      | ((with_reducible refine OrS.solo ?_ ?_); decide +kernel)
      | ((with_reducible refine OrS.anc ?_ ?_); kernel_rfl)
      | (refine Exists.intro _ (And.intro rfl ?_))
      | (refine Exists.intro _ (Exists.intro _ (And.intro rfl ?_)))))
    try (conv => whnf)
    try exact x.go) (_hq : AnyP q := by first | with_reducible exact anyT | exact anyP) : callT P σ f vs K ∨ R := .inl ⟨_, _, _, hc, ha, h ⟨x⟩⟩
/-- A call that is handed objects. -/
theorem useI (r : List Nat) (hc : ConI P f cargs σ0 rs σ1) (x : q) (h1 : r.Nodup := by decide) (h2 : fitO σ r r σ0 := by repeat (first | exact trivial | refine ⟨by first | rfl | (simp [Obj.ren, frzI, -Int.ofNat_toNat]; done) | (simp [Obj.ren, frzI, V.ren, V.rens, V.cells, EnvV.ev, EnvV.upd, mkE, backL, backN, -Int.ofNat_toNat]; done) | (simp [Obj.ren, frzI, -Int.ofNat_toNat]; omega), ?_⟩)) (h3 : (σ0.all (Obj.idsIn σ0.length)) = true := by rfl)
    (h4 : (argsFitI σ r vs cargs ∧ (plainV rs && σ1.all Obj.plain) = true) ∨ (vs = V.rens r cargs ∧ idsIns r.length cargs = true) := by first | exact .inr ⟨rfl, rfl⟩ | (refine .inl ⟨?_, rfl⟩; repeat (first | exact trivial | refine ⟨by first | exact .inl ⟨by decide, rfl⟩ | exact .inr ⟨rfl, by first | exact rfl | exact trivial | exact ⟨_, rfl, rfl⟩ | exact ⟨_, _, rfl, by first | (simp; done) | (simp; omega), by first | (simp; done) | (simp [List.take_of_length_le]; done) | (rw [List.drop_zero]; exact List.take_of_length_le (by first | omega | (simp; omega))) | (simp [List.take_of_length_le]; omega)⟩ | exact ⟨_, rfl, by first | (simp; done) | (simp; omega), by first | (simp; done) | (simp [List.take_of_length_le]; done) | (rw [List.drop_zero]; exact List.take_of_length_le (by first | omega | (simp; omega))) | (simp [List.take_of_length_le]; omega)⟩⟩, ?_⟩)))
    (h : Hid q → K (rs.ren (backL r σ0.length σ.length σ1.length)) (putBack (backL r σ0.length σ.length σ1.length) r σ1 σ ++ (σ1.drop σ0.length).map (Obj.ren (backL r σ0.length σ.length σ1.length))) := by
    intro x
    (repeat ((conv => whnf); first
      | ((with_reducible refine OrW.fit ?_ ?_); focus (first | omega | (dsimp only; omega) | (simp; omega)))
      | ((with_reducible refine And.intro ?_ ?_); focus (first | (with_reducible show okAll _ _ = true; kernel_rfl) | (with_reducible show mapB _ _ _ = true; kernel_rfl) | ((with_reducible show List.all _ _ = true); rfl) | ((with_reducible show Nat.ble _ _ = true); rfl) | ((with_reducible show kind _ _ = _); rfl) | (with_reducible show (_ || _) = true; kernel_rfl) | (with_reducible show seen _ _ _ = true; kernel_rfl) | omega | (dsimp only; omega) | with_reducible rfl | exact True.intro | (simp; done) | (simp; omega) | rfl | exact .inl rfl | exact .inr rfl | (intro hq; simp at hq; done) | (show _ = _; kernel_rfl)))
      | ((with_reducible refine brT ?_ ?_); rfl)
      | ((with_reducible refine brF ?_ ?_); rfl)
      | ((with_reducible refine OrS.solo ?_ ?_); decide +kernel)
      | ((with_reducible refine OrS.anc ?_ ?_); kernel_rfl)
      | (refine Exists.intro _ (And.intro rfl ?_))
      | (refine Exists.intro _ (Exists.intro _ (And.intro rfl ?_)))))
    try (conv => whnf)
    try exact x.go) (_hq : AnyP q := by first | with_reducible exact anyT | exact anyP) : R ∨ callI P σ f vs K := .inr ⟨r, _, _, _, _, hc, h1, h2, h3, h4, h ⟨x⟩⟩
/-- A state is shown. -/
theorem fitK {k0 : Nat} {E : EnvV} {env : List (Nat × V)} {ob : List Obj} (fr r : List Nat) (h1 : fitE E r env := by repeat (first | exact trivial | refine ⟨by first | rfl | (simp [Obj.ren, frzI, -Int.ofNat_toNat]; done) | (simp [Obj.ren, frzI, V.ren, V.rens, V.cells, EnvV.ev, EnvV.upd, mkE, backL, backN, -Int.ofNat_toNat]; done) | (simp [Obj.ren, frzI, -Int.ofNat_toNat]; omega), ?_⟩)) (h2 : fitO (frzI fr σ) r r ob := by repeat (first | exact trivial | refine ⟨by first | rfl | (simp [Obj.ren, frzI, -Int.ofNat_toNat]; done) | (simp [Obj.ren, frzI, V.ren, V.rens, V.cells, EnvV.ev, EnvV.upd, mkE, backL, backN, -Int.ofNat_toNat]; done) | (simp [Obj.ren, frzI, -Int.ofNat_toNat]; omega), ?_⟩)) (h3 : r.Nodup := by decide) (h4 : (env.all fun p => idsIn ob.length p.2) = true := by rfl) (h5 : (ob.all (Obj.idsIn ob.length)) = true := by rfl) (h6 : r.take k0 = List.range k0 := by rfl) : Fits k0 E σ env ob := ⟨.frz fr, r, h1, h2, h3, h4, h5, h6⟩
end Go.Proofs.YtffiddkignmobaaDoorTv
end
section
/- TV, part Z: the door from a law's row: typed data that a law is handed. -/
namespace Go.Proofs.YtffiddkignmobaaDoorTv
open Go.Proofs.YtffiddkignmobaaDoorVe
/-- What a whole number, a length or a text of data that came in keeps to. -/
def wfT : (t : Ty) → t.den → Prop
  | .int k, n => (Lit.int k n).wf = true
  | .bool, _ => True
  | .fnil, _ => True
  | .str, s => (s.size : Int) ≤ huge
  | .unit, _ => True
  | .pair a b, x => wfT a x.1 ∧ wfT b x.2
  | .list t, l => ∀ x ∈ l, wfT t x
def Shown (w : World) (t : Ty) (x : t.den) (vs : List Value) : Prop := ∃ ts : List FT, FRL w (fun k => k < w.heap.size) ts vs ∧ ∀ G H, Sh G H t x (FT.avs ts)
theorem FRL.length {w : World} {Z : Nat → Prop} : ∀ {ts : List FT} {vs : List Value}, FRL w Z ts vs → ts.length = vs.length
  | _, _, .nil => rfl
  | _, _, .cons _ _ _ _ _ h => by simp [FRL.length h]
theorem FRL.app {w : World} {Z : Nat → Prop} : ∀ {ts us : List FT} {vs ws : List Value}, FRL w Z ts vs → FRL w Z us ws → FRL w Z (ts ++ us) (vs ++ ws)
  | _, _, _, _, .nil, k => k
  | _, _, _, _, .cons _ _ _ _ h1 h, k => .cons _ _ _ _ h1 (FRL.app h k)
theorem FRL.flat {w : World} {Z : Nat → Prop} {n : Nat} {f : Nat → List FT} {g : Nat → List Value} : ∀ l : List Nat, (∀ i ∈ l, FRL w Z (f i) (g i)) → FRL w Z (l.flatMap f) (l.flatMap g)
  | [], _ => .nil
  | i :: l, h => by
    simp only [List.flatMap_cons]
    exact FRL.app (h i (by simp)) (FRL.flat (n := n) l fun j hj => h j (by simp [hj]))
theorem avs_flat (f : Nat → List FT) : ∀ l : List Nat, FT.avs (l.flatMap f) = (l.map fun i => FT.avs (f i)).flatten
  | [] => rfl
  | i :: l => by
    have := avs_flat f l
    rw [List.flatMap_cons, List.map_cons, List.flatten_cons, ← this, avs_map, avs_map, avs_map, List.map_append]
theorem all2_map {α β γ : Type} {R : β → γ → Prop} (f : α → β) (g : α → γ) : ∀ l : List α, (∀ i ∈ l, R (f i) (g i)) → All2 R (l.map f) (l.map g)
  | [], _ => trivial
  | i :: l, h => ⟨h i (by simp), all2_map f g l fun j hj => h j (by simp [hj])⟩
theorem flat_length {α : Type} {z : Nat} (g : Nat → List α) (n : Nat) (hg : ∀ j, j < n → (g j).length = z) : ((List.range n).flatMap g).length = n * z := by
  rw [List.length_flatMap]
  have : ((List.range n).map fun a => (g a).length) = (List.range n).map fun _ => z := List.map_congr_left fun a ha => hg a (List.mem_range.1 ha)
  rw [this, List.map_const', List.sum_replicate_nat, List.length_range]
theorem flat_get {α : Type} {z : Nat} (g : Nat → List α) : ∀ (n : Nat), (∀ j, j < n → (g j).length = z) → ∀ i, i < n * z → ((List.range n).flatMap g)[i]? = (g (i / z))[i % z]? := by
  intro n
  induction n with
  | zero => intro _ i hi; omega
  | succ n ih =>
    intro hg i hi
    have hlen := flat_length g n fun j hj => hg j (by omega)
    rw [List.range_succ, List.flatMap_append]
    by_cases h : i < n * z
    · rw [List.getElem?_append_left (by rw [hlen]; exact h)]
      exact ih (fun j hj => hg j (by omega)) i h
    · rw [List.getElem?_append_right (by rw [hlen]; omega), hlen]
      have e1 : i / z = n := Nat.div_eq_of_lt_le (by omega) hi
      have e2 : i % z = i - n * z := by
        have := Nat.div_add_mod i z
        rw [e1, Nat.mul_comm] at this
        omega
      simp [e1, e2]
theorem mem_weightsAll {Hh : Type} {P : Program} {e : TypeId} : ∀ {ds : List (DataW Hh)} {d : DataW Hh}, d ∈ ds → ∀ n ∈ d.weights P e, n ∈ DataW.weightsAll P e ds
  | c :: ds, d, h, n, hn => by
    unfold DataW.weightsAll
    rcases List.mem_cons.1 h with rfl | h
    · exact List.mem_append_left _ hn
    · exact List.mem_append_right _ (mem_weightsAll h n hn)
section
variable {Hh : Type} {enc : TypeId × Value → Hh} {P : Program} {w : World} {base : Nat} {spare : Nat → Bool} {held : Bool}
/-- Cells that read as a datum of type t show typed data. -/
def Opens (enc : TypeId × Value → Hh) (P : Program) (w : World) (base : Nat) (spare : Nat → Bool) (held : Bool) (t : TypeId) (τ : Ty) : Prop :=
  ∀ (n : Nat) (cs : List Value) (y : DataW Hh × List MemPlace), cs.length = τ.z → DataW.trod enc P w base spare held n t cs = some y → (∀ k ∈ y.1.weights P t, k ≤ reachBytes) → ∃ x : τ.den, Shown w τ x cs ∧ wfT τ x
theorem opens_int {t : TypeId} {k : IntKind} (ht : P.underlying t = some (.int k)) : Opens enc P w base spare held t (.int k) := by
  intro n cs y hl h _
  obtain ⟨x, rfl, _, wx⟩ := DataW.trod_int ht h
  exact ⟨x, ⟨[.int k x], .cons _ _ _ _ (.int k x) .nil, fun G H => rfl⟩, wx⟩
theorem opens_bool {t : TypeId} (ht : P.underlying t = some .bool) : Opens enc P w base spare held t .bool := by
  intro n cs y hl h _
  obtain ⟨x, rfl, _⟩ := DataW.trod_bool ht h
  exact ⟨x, ⟨[.bool x], .cons _ _ _ _ (.bool x) .nil, fun G H => rfl⟩, trivial⟩
theorem opens_str {t : TypeId} (ht : P.underlying t = some .string) : Opens enc P w base spare held t .str := by
  intro n cs y hl h hw
  obtain ⟨x, rfl, rfl, _⟩ := DataW.trod_string ht h
  refine ⟨x, ⟨[.str x], .cons _ _ _ _ (.str x) .nil, fun G H => rfl⟩, ?_⟩
  have := hw x.data.toList.length (by simp [DataW.weights])
  simp only [reachBytes, Array.length_toList] at this
  show ((x.size : Nat) : Int) ≤ huge
  have e : x.size = x.data.size := rfl
  simp only [huge]
  omega
theorem opens_slice {t e : TypeId} {τ : Ty} {b : Nat} (ht : P.underlying t = some (.slice e)) (hc : P.cellsOf e = τ.z) (hz : 0 < τ.z) (hb : P.bytesOf e = b) (hb0 : 0 < b) (hd : Opens enc P w base spare held e τ) : Opens enc P w base spare held t (.list τ) := by
  intro n cs y hl h hw
  rcases Go.Deep.open_slice ht h with ⟨rfl, rfl⟩ | ⟨a, len, cap, m, n', D, Pl, rfl, hba, hle, hcap, hm, rfl, hi⟩
  · exact ⟨[], ⟨[.nil], .cons _ _ _ _ .nil .nil, fun G H => ⟨.nil, [], rfl, rfl, rfl, rfl, trivial, by simp, trivial⟩⟩, by simp [wfT]⟩
  · have hml : len ≤ m := by rw [hm]; split <;> omega
    simp only [DataW.weights, ht] at hw
    have hsize : (len : Int) ≤ huge := by
      have := hw _ (List.mem_cons_self ..)
      simp only [List.length_map, List.length_range, reachBytes, hb] at this
      have h2 : len ≤ (len + (m - len)) * b := Nat.le_trans (Nat.le_add_right _ _) (Nat.le_mul_of_pos_right _ hb0)
      simp only [huge]; omega
    have hx : ∀ i : Fin len, ∃ q : τ.den × List Value × List FT, w.cells? base (a.add (i.1 * P.cellsOf e)) (P.cellsOf e) = some q.2.1 ∧ FRL w (fun k => k < w.heap.size) q.2.2 q.2.1 ∧ (∀ G H, Sh G H τ q.1 (FT.avs q.2.2)) ∧ wfT τ q.1 := by
      intro i
      obtain ⟨cs', h1, h2⟩ := hi i.1 (by have := i.2; omega)
      obtain ⟨_, hcl, _⟩ := World.cells?_some h1
      obtain ⟨x, ⟨ts, h3, h4⟩, h5⟩ := hd _ _ _ (hcl.trans hc) h2 fun k hk => hw k (by
        refine List.mem_cons_of_mem _ (List.mem_append_left _ (mem_weightsAll (List.mem_map.2 ⟨i.1, List.mem_range.2 i.2, rfl⟩) k hk)))
      exact ⟨(x, cs', ts), h1, h3, h4, h5⟩
    let q : Nat → τ.den × List Value × List FT := fun i => if h : i < len then Classical.choose (hx ⟨i, h⟩) else (dflt τ, [], [])
    have hq : ∀ i, i < len → w.cells? base (a.add (i * P.cellsOf e)) (P.cellsOf e) = some (q i).2.1 ∧ FRL w (fun k => k < w.heap.size) (q i).2.2 (q i).2.1 ∧ (∀ G H, Sh G H τ (q i).1 (FT.avs (q i).2.2)) ∧ wfT τ (q i).1 := fun i hi => by
      simp only [q, hi, dif_pos]
      exact Classical.choose_spec (hx ⟨i, hi⟩)
    have hlen : ∀ j, j < len → ((q j).2.1).length = τ.z := fun j hj => by
      obtain ⟨_, h1, _⟩ := World.cells?_some (hq j hj).1
      exact h1.trans hc
    have hlenT : ∀ j, j < len → ((q j).2.2).length = τ.z := fun j hj => by rw [(FRL.length (hq j hj).2.1), hlen j hj]
    refine ⟨(List.range len).map fun i => (q i).1, ⟨[.sl len ((List.range len).flatMap fun i => (q i).2.2)], .cons _ _ _ _ ?_ .nil, fun G H => ?_⟩, fun x hx => ?_⟩
    · by_cases h0 : len = 0
      · subst h0
        exact .sl0 _ _
      · have hcell : ∀ i, i < len * τ.z → w.cell? (a.add i) = ((List.range len).flatMap fun i => (q i).2.1)[i]? := fun i hi => by
          rw [flat_get _ len hlen i hi]
          have hd1 : i / τ.z < len := Nat.div_lt_of_lt_mul (by rw [Nat.mul_comm]; exact hi)
          obtain ⟨_, _, h1⟩ := World.cells?_some (hq _ hd1).1
          have h2 := h1 (i % τ.z) (by rw [hc]; exact Nat.mod_lt _ hz)
          rw [Go.Deep.add_add, hc, Nat.mul_comm, Nat.div_add_mod] at h2
          exact h2
        have h00 : 0 < len * τ.z := Nat.mul_pos (by omega) hz
        have hl2 := flat_length (fun i => (q i).2.1) len hlen
        have hc0 := hcell 0 h00
        rw [List.getElem?_eq_getElem (by rw [hl2]; exact h00)] at hc0
        have hs := spot_none hc0
        have ea : a = ⟨a.block, a.off, none⟩ := by cases a; simp_all
        rw [ea]
        refine .sl len cap a.block a.off _ ((List.range len).flatMap fun i => (q i).2.1) h0 hle (fun i v hv => ?_) (FRL.flat (n := len) _ fun i hi => (hq i (List.mem_range.1 hi)).2.1) ?_
        · have hil : i < len * τ.z := by rw [← hl2]; exact (List.getElem?_eq_some_iff.1 hv).1
          have := hcell i hil
          rw [add_none hs, hv] at this
          exact this
        · have := cell_lt hc0
          simpa [Addr.add] using this
    · refine ⟨_, (List.range len).map fun i => FT.avs (q i).2.2, rfl, rfl, by simp [FT.av, lenA], ?_, trivial, by simpa using hsize, all2_map _ _ _ fun i hi => (hq i (List.mem_range.1 hi)).2.2.1 G H⟩
      simp only [FT.av, rowA]
      rw [if_pos (flat_length _ len hlenT), avs_flat]
    · obtain ⟨i, hi, rfl⟩ := List.mem_map.1 hx
      exact (hq i (List.mem_range.1 hi)).2.2.2
end
/-- One cell's data, for a call. -/
theorem Shown.one {w : World} {τ : Ty} {x : τ.den} {v : Value} (h : Shown w τ x [v]) : ∃ t, FR w (fun k => k < w.heap.size) t v ∧ ∀ m σ, VT m σ (.val τ x) t.av := by
  obtain ⟨ts, h1, h2⟩ := h
  cases h1 with
  | cons t ts _ _ h3 h4 =>
    cases h4
    exact ⟨t, h3, fun m σ => .val _ _ _ (by have := h2 m.fz m.H; simpa [FT.avs] using this)⟩
theorem Sh.list_le {G : Nat → Nat → Prop} {H : Heap} {t : Ty} {l : List t.den} {cs : List AV} (h : Sh G H (.list t) l cs) : (l.length : Int) ≤ huge ∧ ∀ x ∈ l, ∃ c, Sh G H t x c := by
  obtain ⟨a, ch, _, _, _, _, _, h1, h2⟩ := h
  refine ⟨h1, fun x hx => ?_⟩
  obtain ⟨i, hi⟩ := List.mem_iff_getElem?.1 hx
  obtain ⟨y, _, h3⟩ := h2.get hi
  exact ⟨y, h3⟩
theorem Shown.len {w : World} {t : Ty} {l : List t.den} {vs : List Value} (h : Shown w (.list t) l vs) : (l.length : Int) ≤ huge := by
  obtain ⟨ts, _, h2⟩ := h
  exact (h2 (fun _ _ => True) (fun _ => [])).list_le.1
theorem Shown.rows {w : World} {t : Ty} {l : List (List t.den)} {vs : List Value} (h : Shown w (.list (.list t)) l vs) : (l.length : Int) ≤ huge ∧ ∀ r ∈ l, (r.length : Int) ≤ huge := by
  obtain ⟨ts, _, h2⟩ := h
  obtain ⟨h3, h4⟩ := (h2 (fun _ _ => True) (fun _ => [])).list_le
  refine ⟨h3, fun r hr => ?_⟩
  obtain ⟨c, hc⟩ := h4 r hr
  exact hc.list_le.1
def bare : MS := ⟨fun _ _ => none, fun _ => [], fun _ => (0, 0)⟩
/-- A law's call. -/
theorem law_door {P : Program} {f : Nat} {args : List V} (h : ConS P f args (.b true)) {w : World} (hs : sideT w) (hB : sideB ≤ w.heap.size) {ts : List FT} {vals : List Value} (hv : FRL w (fun k => k < w.heap.size) ts vals) (ha : VTL bare [] args (FT.avs ts)) :
    Calls P f vals.toArray w fun e w' => e = .returned (.bool true) ∧ Go.RowKit.Below w.heap.size w w' := by
  refine calls_law (ts := ts) ?_ (fun _ h => h) hs (fun k hk => Nat.lt_of_lt_of_le hk hB) hv
  exact (h.2.2 bare 0 _ (fun _ _ _ h => by cases h) rfl ⟨fun id o h => by simp at h, fun s j k h => by cases h⟩ ha).mono fun av H' ⟨e, _⟩ => by rw [e]; rfl
end Go.Proofs.YtffiddkignmobaaDoorTv
end
