/- The rules by which the texts of this claim step through the program: what a place in a frame holds, told by a list; how code, regions and calls go on. They speak of any program. -/
import Derived.WalkKit
namespace Go.Proofs.YtaglgnjamihdnaaDoor.R
open Go Go.RowKit

/-- What slots hold: the newest first. -/
abbrev Env := List (Nat × Value)

def look : Env → Nat → Option Value
  | [], _ => none
  | (k, v) :: r, t => match Nat.beq k t with
    | true => some v
    | false => look r t

def opv (σ : Env) : Operand → Option Value
  | .tmp t => look σ t
  | .const v => some v
  | .func f => some (.func (.func f) #[] #[])
  | .global g => some (.pointer (some ⟨g, 0, none⟩))

def opvs (σ : Env) : List Operand → Option (List Value)
  | [] => some []
  | x :: r => match opv σ x with
    | some v => match opvs σ r with
      | some vs => some (v :: vs)
      | none => none
    | none => none

structure Ev (σ : Env) (n : Nat) (a : Act) : Prop where
  size : a.tmps.size = n
  defers : a.defers = []
  get : ∀ t v, look σ t = some v → a.tmps[t]? = some v

theorem Ev.eval {σ : Env} {n : Nat} {a : Act} (h : Ev σ n a) {x : Operand} {v : Value} (hx : opv σ x = some v) : a.eval x = v := by
  cases x with
  | tmp t =>
    have := h.get t v hx
    simp [Act.eval, this]
  | const u => simpa [opv, Act.eval] using hx
  | global g => simpa [opv, Act.eval] using hx
  | func f => simpa [opv, Act.eval] using hx

theorem Ev.evals {σ : Env} {n : Nat} {a : Act} (h : Ev σ n a) : ∀ {xs : List Operand} {vs : List Value}, opvs σ xs = some vs → xs.map a.eval = vs := by
  intro xs
  induction xs with
  | nil => intro vs hv; simp [opvs] at hv; simp [hv]
  | cons x r ih =>
    intro vs hv
    simp only [opvs] at hv
    split at hv
    · rename_i v hx
      split at hv
      · rename_i us hr
        cases hv
        simp [h.eval hx, ih hr]
      · cases hv
    · cases hv

theorem Nat_beq_eq {k t : Nat} (h : Nat.beq k t = true) : k = t := Nat.eq_of_beq_eq_true h
theorem Nat_beq_ne {k t : Nat} (h : Nat.beq k t = false) : k ≠ t := Nat.ne_of_beq_eq_false h

theorem Ev.put {σ : Env} {n : Nat} {a : Act} (h : Ev σ n a) {d : Nat} (hd : Nat.blt d n = true) (v : Value) : Ev ((d, v) :: σ) n (a.put (some d) v) := by
  have hd' : d < n := by simpa [Nat.blt_eq] using hd
  refine ⟨by simp [Act.put, h.size], h.defers, fun t u hu => ?_⟩
  simp only [look] at hu
  simp only [Act.put, Array.getElem?_setIfInBounds]
  split at hu
  · rename_i hb
    cases hu
    rw [if_pos (Nat_beq_eq hb)]
    have := Nat_beq_eq hb
    subst this
    simp [h.size, hd']
  · rename_i hb
    rw [if_neg (Nat_beq_ne hb)]
    exact h.get t u hu

/-- A slot's value, told otherwise. -/
theorem Ev.tell {σ : Env} {n : Nat} {a : Act} (h : Ev σ n a) {d : Nat} {v : Value} (hd : look σ d = some v) : Ev ((d, v) :: σ) n a := by
  refine ⟨h.size, h.defers, fun t u hu => ?_⟩
  simp only [look] at hu
  split at hu
  · rename_i hb
    cases hu
    rw [← Nat_beq_eq hb]
    exact h.get _ _ hd
  · exact h.get _ _ hu

/-- All that the second list says, the first one says. -/
def sub (σ : Env) : Env → Prop
  | [] => True
  | (t, v) :: r => look σ t = some v ∧ sub σ r

theorem sub.look {σ : Env} : ∀ {τ : Env}, sub σ τ → ∀ t v, look τ t = some v → R.look σ t = some v := by
  intro τ
  induction τ with
  | nil => intro _ t v h; simp [R.look] at h
  | cons c r ih =>
    intro hs t v h
    obtain ⟨k, u⟩ := c
    simp only [R.look] at h
    split at h
    · rename_i hb
      cases h
      rw [← Nat_beq_eq hb]
      exact hs.1
    · exact ih hs.2 t v h

theorem Ev.weak {σ τ : Env} {n : Nat} {a : Act} (h : Ev σ n a) (hs : sub σ τ) : Ev τ n a :=
  ⟨h.size, h.defers, fun t v hv => h.get t v (hs.look t v hv)⟩

abbrev Post := Exit → Env → World → Prop

def lift (n : Nat) (Q : Post) : Exit → Act → World → Prop := fun e a w => ∃ σ, Ev σ n a ∧ Q e σ w

/-- A piece of code, from slots and a world on, ends as Q says. -/
def W (P : Program) (n : Nat) (c : Code) (σ : Env) (w : World) (Q : Post) : Prop := ∀ a, Ev σ n a → c.wp P (lift n Q) a w

/-- The operations of a region that are left. -/
def O (P : Program) (n : Nat) (ops : Array Oper) (todo : List Oper) (σ : Env) (w : World) (Q : Post) : Prop :=
  ∀ a, Ev σ n a → wpList P ops (lift n Q) todo a w

section
variable {P : Program} {n : Nat} {σ : Env} {w : World} {Q : Post}

theorem W_mono {c : Code} {Q' : Post} (h : W P n c σ w Q') (hq : ∀ e σ w, Q' e σ w → Q e σ w) : W P n c σ w Q :=
  fun a ha => wp_mono (h a ha) fun _ _ _ ⟨τ, ht, hq'⟩ => ⟨τ, ht, hq _ _ _ hq'⟩

theorem W_weak {c : Code} (τ : Env) (hs : sub σ τ) (h : W P n c τ w Q) : W P n c σ w Q := fun a ha => h a (ha.weak hs)

theorem O_weak {ops : Array Oper} {todo : List Oper} (τ : Env) (hs : sub σ τ) (h : O P n ops todo τ w Q) : O P n ops todo σ w Q := fun a ha => h a (ha.weak hs)

/-- The end of the first of two pieces. -/
abbrev then_ (P : Program) (n : Nat) (y : Code) (Q : Post) : Post := fun e σ w => match e with
  | .normal => W P n y σ w Q
  | e => Q e σ w

theorem W_seq {x y : Code} (h : W P n x σ w (then_ P n y Q)) : W P n (.seq x y) σ w Q := fun a ha =>
  wp_seq (wp_mono (h a ha) fun e a w ⟨τ, ht, hq⟩ => by
    cases e <;> first | exact hq _ ht | exact ⟨τ, ht, hq⟩)

/-- The end of the first of two pieces, told by a relation of its own. -/
theorem W_cut {x y : Code} (M : Env → World → Prop)
    (h : W P n x σ w (fun e σ w => match e with | .normal => M σ w | e => Q e σ w)) (k : ∀ σ w, M σ w → W P n y σ w Q) : W P n (.seq x y) σ w Q :=
  W_seq (W_mono h fun e σ w hq => by cases e <;> first | exact k _ _ hq | exact hq)

abbrev inBlock_ (id : Nat) (Q : Post) : Post := fun e σ w => match e with
  | .exit i => match Nat.beq i id with
    | true => Q .normal σ w
    | false => Q (.exit i) σ w
  | e => Q e σ w

theorem W_block {id : Nat} {c : Code} (h : W P n c σ w (inBlock_ id Q)) : W P n (.block id c) σ w Q := fun a ha =>
  wp_block (wp_mono (h a ha) fun e a w ⟨τ, ht, hq⟩ => by
    cases e <;> try exact ⟨τ, ht, hq⟩
    rename_i i
    simp only [inBlock_] at hq
    simp only [Exit.inBlock]
    split at hq
    · rename_i hb
      rw [if_pos (Nat_beq_eq hb)]
      exact ⟨τ, ht, hq⟩
    · rename_i hb
      rw [if_neg (Nat_beq_ne hb)]
      exact ⟨τ, ht, hq⟩)

theorem W_skip (h : Q .normal σ w) : W P n .skip σ w Q := fun _ ha => wp_skip ⟨σ, ha, h⟩
theorem W_ret (h : Q .ret σ w) : W P n .ret σ w Q := fun _ ha => wp_ret ⟨σ, ha, h⟩
theorem W_exit {id : Nat} (h : Q (.exit id) σ w) : W P n (.exit id) σ w Q := fun _ ha => wp_exit ⟨σ, ha, h⟩

/-- What an 'if' asks is parted. -/
theorem W_if {c : Operand} {x y : Code} {b : Bool} (hc : opv σ c = some (.bool b)) (ht : b = true → W P n x σ w Q) (hf : b = false → W P n y σ w Q) :
    W P n (.cond c x y) σ w Q := fun a ha =>
  wp_cond_split (ha.eval hc) (fun h => ht h a ha) (fun h => hf h a ha)

theorem W_if_true {c : Operand} {x y : Code} {b : Bool} (hc : opv σ c = some (.bool b)) (hb : b = true) (ht : W P n x σ w Q) :
    W P n (.cond c x y) σ w Q := W_if hc (fun _ => ht) (fun h => by simp [hb] at h)
theorem W_if_false {c : Operand} {x y : Code} {b : Bool} (hc : opv σ c = some (.bool b)) (hb : b = false) (hf : W P n y σ w Q) :
    W P n (.cond c x y) σ w Q := W_if hc (fun h => by simp [hb] at h) (fun _ => hf)

theorem wp_loop_ind {P : Program} {ι : Type} {c : Code} {Q : Exit → Act → World → Prop} {a : Act} {w : World} (I : ι → Act → World → Prop) (μ : ι → Nat) (i : ι) (h0 : I i a w)
    (round : ∀ i a w, I i a w → c.wp P (Exit.then (fun a w => ∃ j, I j a w ∧ μ j < μ i) Q) a w) : (Code.loop c).wp P Q a w := by
  intro b k cs
  have key : ∀ m i, μ i = m → ∀ a w, I i a w → ∃ e a' w', Q e a' w' ∧ Arrives P (lone (b.at a (.code c :: .inLoop c :: k)) cs w) b k cs e a' w' := by
    intro m
    induction m using Nat.strongRecOn with
    | _ m ih =>
      intro i hm a w hI
      obtain ⟨e, a₁, w₁, hq, harr⟩ := round i a w hI b (.inLoop c :: k) cs
      cases e with
      | normal =>
        obtain ⟨j, hI₁, hlt⟩ := hq
        obtain ⟨e₂, a₂, w₂, hq₂, harr₂⟩ := ih (μ j) (hm ▸ hlt) j rfl a₁ w₁ hI₁
        exact ⟨e₂, a₂, w₂, hq₂, .of_steps (Steps.trans harr (.one step_inLoop)) harr₂⟩
      | exit id => exact ⟨_, a₁, w₁, hq, .pass (x := .inLoop c) rfl (fun _ _ => .inl (by simp)) harr⟩
      | goto l => exact ⟨_, a₁, w₁, hq, .pass (x := .inLoop c) rfl (fun _ _ => .inl (by simp)) harr⟩
      | ret => exact ⟨_, a₁, w₁, hq, .pass (x := .inLoop c) rfl (fun _ _ => .inl (by simp)) harr⟩
      | panic ch => exact ⟨_, a₁, w₁, hq, .pass (x := .inLoop c) rfl (fun _ _ => .inl (by simp)) harr⟩
      | outgrown => exact ⟨_, a₁, w₁, hq, .pass (x := .inLoop c) rfl (fun _ _ => .inl (by simp)) harr⟩
  obtain ⟨e, a', w', hq, harr⟩ := key _ i rfl a w h0
  exact ⟨e, a', w', hq, .of_steps (.one step_loop) harr⟩

/-- A loop: what holds at each round's head, by what the rounds hang on. -/
theorem W_loop {ι : Type} {c : Code} (S : ι → Env) (I : ι → World → Prop) (μ : ι → Nat) (i : ι) (hs : sub σ (S i)) (h0 : I i w)
    (round : ∀ i w, I i w → W P n c (S i) w (fun e σ w => match e with
      | .normal => ∃ j, sub σ (S j) ∧ I j w ∧ μ j < μ i
      | e => Q e σ w)) : W P n (.loop c) σ w Q := fun a ha => by
  refine wp_loop_ind (fun j a w => Ev (S j) n a ∧ I j w) μ i ⟨ha.weak hs, h0⟩ ?_
  intro j a w ⟨hj, hI⟩
  refine wp_mono (round j w hI a hj) fun e a w ⟨τ, ht, hq⟩ => ?_
  cases e <;> first
    | exact (let ⟨k, hk, hI', hm⟩ := hq; ⟨k, ⟨ht.weak hk, hI'⟩, hm⟩)
    | exact ⟨τ, ht, hq⟩

/-- A region in the order of the text. -/
theorem W_region {id : Nat} {l : List Oper} (h : O P n l.toArray l σ w Q) : W P n (.region id l.toArray false) σ w Q := fun a ha =>
  wp_region_lit (h a ha)

theorem O_end {ops : Array Oper} (h : Q .normal σ w) : O P n ops [] σ w Q := fun _ ha => wpList_nil ⟨σ, ha, h⟩

/-- Does an operation's guard let it be done? -/
def guardIs (ops : Array Oper) (σ : Env) : Option (Nat × Bool) → Option Bool
  | none => some true
  | some (j, want) => match ops[j]? with
    | some o => match o.dst with
      | some d => match look σ d with
        | some (.bool b) => some (b == want)
        | some (.tuple _) => some false
        | _ => none
      | none => none
    | none => none

theorem guard_wanted {ops : Array Oper} {o : Oper} {a : Act} {b : Bool} (ha : Ev σ n a) (hg : guardIs ops σ o.guard = some b) : Region.wanted o (yielded ops a.tmps) = b := by
  unfold guardIs at hg
  unfold Region.wanted
  split at hg
  · rename_i h; rw [h]; simpa using hg
  · rename_i j want h
    rw [h]
    dsimp only
    split at hg
    · rename_i o' ho
      split at hg
      · rename_i d hd
        split at hg
        · rename_i c hl
          have hl' := ha.get _ _ hl
          simp only [yielded, ho, Option.bind_some, hd, hl']
          simpa using hg
        · rename_i c hl
          have hl' := ha.get _ _ hl
          simp only [yielded, ho, Option.bind_some, hd, hl']
          simpa using hg
        · cases hg
      · cases hg
    · cases hg

def upd (σ : Env) : Option Nat → Value → Env
  | some d, v => (d, v) :: σ
  | none, _ => σ

def dstOk (n : Nat) : Option Nat → Bool
  | some d => Nat.blt d n
  | none => true

theorem Ev.upd {a : Act} (h : Ev σ n a) {d : Option Nat} (hd : dstOk n d = true) (v : Value) : Ev (R.upd σ d v) n (a.put d v) := by
  cases d with
  | none => exact h
  | some d => exact h.put hd v

variable {ops : Array Oper} {rest : List Oper} {o : Oper}

theorem O_skip (hg : guardIs ops σ o.guard = some false) (hd : dstOk n o.dst = true) (h : O P n ops rest (upd σ o.dst undef) w Q) : O P n ops (o :: rest) σ w Q := fun a ha => by
  unfold wpList
  rw [guard_wanted ha hg]
  exact h _ (ha.upd hd undef)

/-- The rule under the rules: an operation that gives a value. -/
theorem O_value {v : Value} {w' : World} (hg : guardIs ops σ o.guard = some true) (hd : dstOk n o.dst = true)
    (hrun : ∀ a, Ev σ n a → (execOp a.eval o).run P w = .ok (.value v) w') (h : O P n ops rest (upd σ o.dst v) w' Q) : O P n ops (o :: rest) σ w Q := fun a ha => by
  unfold wpList
  rw [guard_wanted ha hg]
  simp only [if_true]
  refine .inl ?_
  unfold Oper.wp
  rw [hrun a ha]
  exact h _ (ha.upd hd v)

theorem O_none {w' : World} (hg : guardIs ops σ o.guard = some true) (hd : o.dst = none)
    (hrun : ∀ a, Ev σ n a → (execOp a.eval o).run P w = .ok .skip w') (h : O P n ops rest σ w' Q) : O P n ops (o :: rest) σ w Q := fun a ha => by
  unfold wpList
  rw [guard_wanted ha hg]
  simp only [if_true]
  refine .inl ?_
  unfold Oper.wp
  rw [hrun a ha]
  simp only [Oper.upon, hd, Act.put]
  exact h _ ha

/-- A call, by what is known of the function. -/
theorem O_enter {f : FuncId} {vs : Array Value} {w' : World} {R : Ending → World → Prop} (hg : guardIs ops σ o.guard = some true) (hd : dstOk n o.dst = true)
    (hrun : ∀ a, Ev σ n a → (execOp a.eval o).run P w = .ok (.enter f vs) w') (hc : Calls P f vs w' R)
    (h : ∀ e w', R e w' → ∃ v, e = .returned v ∧ O P n ops rest (upd σ o.dst v) w' Q) : O P n ops (o :: rest) σ w Q := fun a ha => by
  unfold wpList
  rw [guard_wanted ha hg]
  simp only [if_true]
  refine .inl ?_
  unfold Oper.wp
  rw [hrun a ha]
  refine hc.mono fun e w'' hr => ?_
  obtain ⟨v, rfl, hk⟩ := h e w'' hr
  exact hk _ (ha.upd hd v)

/-- A bool in a slot, parted. -/
theorem O_part (d : Nat) {b : Bool} (hb : look σ d = some (.bool b)) (ht : b = true → O P n ops rest ((d, .bool true) :: σ) w Q) (hf : b = false → O P n ops rest ((d, .bool false) :: σ) w Q) :
    O P n ops rest σ w Q := fun a ha => by
  cases b with
  | true => exact ht rfl a (ha.tell hb)
  | false => exact hf rfl a (ha.tell hb)

theorem O_know (d : Nat) {u : Value} (v : Value) (hb : look σ d = some u) (hv : u = v) (h : O P n ops rest ((d, v) :: σ) w Q) : O P n ops rest σ w Q := fun a ha =>
  h a (ha.tell (hv ▸ hb))
theorem W_know {c : Code} (d : Nat) {u : Value} (v : Value) (hb : look σ d = some u) (hv : u = v) (h : W P n c ((d, v) :: σ) w Q) : W P n c σ w Q := fun a ha =>
  h a (ha.tell (hv ▸ hb))

end

/-! ### a whole call -/

def resv (σ : Env) (rs : Array ResultVar) : Option Value := match rs.toList with
  | [] => some (.tuple #[])
  | [.tmp t] => look σ t
  | [.tmp t, .tmp u] => match look σ t, look σ u with
    | some x, some y => some (.tuple #[x, y])
    | _, _ => none
  | [.tmp t, .tmp u, .tmp s] => match look σ t, look σ u, look σ s with
    | some x, some y, some z => some (.tuple #[x, y, z])
    | _, _, _ => none
  | _ => none

theorem resv_run {σ : Env} {n : Nat} {a : Act} (ha : Ev σ n a) {fn : Func} {v : Value} (h : resv σ fn.results = some v) (P : Program) (w : World) : (results fn a.tmps).run P w = .ok v w := by
  have ht : ∀ l, fn.results.toList = l → fn.results = l.toArray := fun l h => by rw [← h, Array.toArray_toList]
  unfold resv at h
  split at h
  · rename_i hl
    have := ht _ hl
    cases h
    simp [results, this]
  · rename_i t hl
    have h1 := ha.get _ _ h
    have := ht _ hl
    simp [results, this, h1]
  · rename_i t u hl
    have := ht _ hl
    split at h
    · rename_i x y hx hy
      cases h
      simp [results, this, ha.get _ _ hx, ha.get _ _ hy]
    · cases h
  · rename_i t u s hl
    have := ht _ hl
    split at h
    · rename_i x y z hx hy hz
      cases h
      simp [results, this, ha.get _ _ hx, ha.get _ _ hy, ha.get _ _ hz]
    · cases h
  · cases h

/-- A body's end. -/
abbrev Leaves (rs : Array ResultVar) (R : Value → World → Prop) : Post := fun e σ w => match e with
  | .normal => ∃ v, resv σ rs = some v ∧ R v w
  | .ret => ∃ v, resv σ rs = some v ∧ R v w
  | _ => False

/-- What a call returns, and in which world. -/
abbrev Ret (R : Value → World → Prop) : Ending → World → Prop := fun e w => ∃ v, e = .returned v ∧ R v w

def envOf : Nat → List Value → Env
  | _, [] => []
  | i, v :: r => (i, v) :: envOf (i + 1) r

theorem envOf_look : ∀ (vs : List Value) (i t : Nat) (v : Value), look (envOf i vs) t = some v → i ≤ t ∧ vs[t - i]? = some v := by
  intro vs
  induction vs with
  | nil => intro i t v h; simp [envOf, look] at h
  | cons x r ih =>
    intro i t v h
    simp only [envOf, look] at h
    split at h
    · rename_i hb
      have := Nat_beq_eq hb
      subst this
      cases h
      simp
    · obtain ⟨h1, h2⟩ := ih (i + 1) t v h
      refine ⟨by omega, ?_⟩
      rw [show t - i = (t - (i + 1)) + 1 by omega]
      simpa using h2

theorem calls_enter {P : Program} {f : FuncId} {fn : Func} {c : Code} {l : List Value} {w : World} {R : Value → World → Prop} {n : Nat} {rs : Array ResultVar}
    (hf : P.funcs[f]? = some fn) (hb : fn.body = some c) (hn : fn.ntmps = n) (hr : fn.results = rs) (hl : l.length ≤ n)
    (h : W P n c (envOf 0 l) w (Leaves rs R)) : Calls P f l.toArray w (Ret R) := by
  refine calls_of_wp hf hb ?_
  have hev : Ev (envOf 0 l) n { tmps := l.toArray ++ Array.replicate (fn.ntmps - l.toArray.size) undef, defers := [] } := by
    refine ⟨by simp [hn]; omega, rfl, fun t v hv => ?_⟩
    obtain ⟨_, h2⟩ := envOf_look l 0 t v hv
    have hlt : t < l.length := by
      rcases Nat.lt_or_ge t l.length with h | h
      · exact h
      · simp [List.getElem?_eq_none h] at h2
    rw [Array.getElem?_append_left (by simpa using hlt)]
    simpa using h2
  refine wp_mono (h _ hev) ?_
  rintro e a w ⟨τ, ht, hq⟩
  cases e with
  | normal => obtain ⟨v, hv, hR⟩ := hq; exact ⟨ht.defers, v, resv_run ht (hr ▸ hv) P w, v, rfl, hR⟩
  | ret => obtain ⟨v, hv, hR⟩ := hq; exact ⟨ht.defers, v, resv_run ht (hr ▸ hv) P w, v, rfl, hR⟩
  | exit i => exact hq.elim
  | goto l => exact hq.elim
  | panic ch => exact hq.elim
  | outgrown => exact hq.elim

end Go.Proofs.YtaglgnjamihdnaaDoor.R
