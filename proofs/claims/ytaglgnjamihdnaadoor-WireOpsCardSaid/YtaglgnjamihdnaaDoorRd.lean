/- A region that draws its order and only reads: one walk in the order of the text serves all orders. -/
import Derived.Test.YtaglgnjamihdnaaDoorRc
import Derived.Deep.Quiet
namespace Go.Proofs.YtaglgnjamihdnaaDoor.R
open Go Go.RowKit

class Mixed (P : Program) : Prop where
  h : P.follows .mixedOrders = true

/-- The operations of such a region that are left; C: what holds of the world all the while. -/
def OQ (P : Program) (n : Nat) (ops : Array Oper) (C : World → Prop) (todo : List Oper) (σ : Env) (Q : Post) : Prop :=
  ∀ a, Ev σ n a → wpQuiet P ops C (fun a' => ∃ σ', Ev σ' n a' ∧ ∀ w', C w' → Q .normal σ' w') todo a

section
variable {P : Program} {n : Nat} {σ : Env} {w : World} {Q : Post} {ops : Array Oper} {rest : List Oper} {o : Oper} {C : World → Prop}
  {dst : Option Nat} {ty : TypeId} {pos : String} {after : Array Edge} {g : Option (Nat × Bool)}

theorem wpQuiet_mono {Q Q' : Act → Prop} (hq : ∀ a, Q a → Q' a) : ∀ (l : List Oper) (a : Act), wpQuiet P ops C Q l a → wpQuiet P ops C Q' l a
  | [], a, h => hq a h
  | o :: l, a, h => by
    unfold wpQuiet at h ⊢
    split
    · rename_i hw
      rw [if_pos hw] at h
      obtain ⟨v, h1, h2⟩ := h
      exact ⟨v, h1, wpQuiet_mono hq l _ h2⟩
    · rename_i hw
      rw [if_neg hw] at h
      exact wpQuiet_mono hq l _ h

theorem W_quiet [hm : Mixed P] {id : Nat} {l : List Oper} (C : World → Prop) (hB : Region.lexB .any l.toArray = true) (hC : C w.drew)
    (h : OQ P n l.toArray C l σ Q) : W P n (.region id l.toArray true) σ w Q := fun a ha => by
  refine wp_region_quiet (C := C) hm.h hB hC ?_
  have := h a ha
  simp only [] at this ⊢
  refine wpQuiet_mono ?_ _ _ this
  rintro a' ⟨σ', he, hk⟩ w' hw'
  exact ⟨σ', he, hk w' hw'⟩

theorem OQ_end (h : ∀ w', C w' → Q .normal σ w') : OQ P n ops C [] σ Q := fun _ ha => wpQuiet_nil ⟨σ, ha, h⟩

theorem OQ_skip (hg : guardIs ops σ o.guard = some false) (hd : dstOk n o.dst = true) (h : OQ P n ops C rest (upd σ o.dst undef) Q) : OQ P n ops C (o :: rest) σ Q := fun a ha => by
  unfold wpQuiet
  rw [guard_wanted ha hg]
  exact h _ (ha.upd hd undef)

theorem OQ_value {v : Value} (hg : guardIs ops σ o.guard = some true) (hd : dstOk n o.dst = true)
    (hrun : ∀ w, C w → ∀ a, Ev σ n a → (execOp a.eval o).run P w = .ok (.value v) w) (h : OQ P n ops C rest (upd σ o.dst v) Q) : OQ P n ops C (o :: rest) σ Q := fun a ha => by
  unfold wpQuiet
  rw [guard_wanted ha hg]
  simp only [if_true]
  refine ⟨v, fun w hw => ?_, h _ (ha.upd hd v)⟩
  unfold Oper.quietAt
  rw [hrun w hw a ha]
  exact ⟨rfl, rfl⟩

/-- A call that leaves the world as C says. -/
theorem OQ_call {f : FuncId} {ts : Array TypeId} {args : Array Operand} {vs : List Value} {v : Value} [hf : Entry P f] (hg : guardIs ops σ g = some true) (hd : dstOk n dst = true)
    (hx : opvs σ args.toList = some vs) (hc : ∀ w, C w → Calls P f vs.toArray w (Ret fun u w' => u = v ∧ C w'))
    (h : OQ P n ops C rest (upd σ dst v) Q) : OQ P n ops C (⟨dst, .call ⟨.value (.func f), args, ts⟩, ty, pos, after, g⟩ :: rest) σ Q := fun a ha => by
  obtain ⟨fn, h1, h2, h3⟩ := hf.h
  have h3' : fn.body.isNone = false := h3
  have this : args.map a.eval = vs.toArray := by apply Array.ext'; rw [Array.toList_map, ha.evals hx]
  unfold wpQuiet
  rw [guard_wanted ha hg]
  simp only [if_true]
  refine ⟨v, fun w hw => ?_, h _ (ha.upd hd v)⟩
  have hrun : (execOp a.eval ⟨dst, .call ⟨.value (.func f), args, ts⟩, ty, pos, after, g⟩).run P w = .ok (.enter f vs.toArray) w := by
    simp only [execOp, resolve, this, Act.eval, Deferred.ofValue, invoke, callFunc, h1, h2, h3', Sem.run_bind, Sem.run_pure, Result.andThen_ok, run_program, Array.empty_append, Array.append_empty, if_false, Bool.false_eq_true]
  unfold Oper.quietAt
  rw [hrun]
  exact ⟨rfl, (hc w hw).mono fun e w'' ⟨u, he, hu, hC⟩ => ⟨by rw [he, hu], hC⟩⟩

/-! ### what single operations give -/

theorem E_move {x : Operand} {v : Value} (hx : opv σ x = some v) : ∀ a, Ev σ n a → (execOp a.eval ⟨dst, .move x, ty, pos, after, g⟩).run P w = .ok (.value v) w :=
  fun a ha => by simp [execOp, ha.eval hx]
theorem E_assign {x : Operand} {v : Value} (hx : opv σ x = some v) : ∀ a, Ev σ n a → (execOp a.eval ⟨dst, .assign x, ty, pos, after, g⟩).run P w = .ok (.value v) w :=
  fun a ha => by simp [execOp, ha.eval hx]
theorem E_nilCheck {x : Operand} {A : Addr} (hx : opv σ x = some (.pointer (some A))) : ∀ a, Ev σ n a → (execOp a.eval ⟨dst, .nilCheck x, ty, pos, after, g⟩).run P w = .ok (.value (.pointer (some A))) w :=
  fun a ha => by simp [execOp, ha.eval hx]
theorem E_pick_true {c x y : Operand} {v : Value} (hc : opv σ c = some (.bool true)) (hx : opv σ x = some v) : ∀ a, Ev σ n a → (execOp a.eval ⟨dst, .pick c x y, ty, pos, after, g⟩).run P w = .ok (.value v) w :=
  fun a ha => by simp [execOp, ha.eval hc, ha.eval hx, asBool]
theorem E_pick_false {c x y : Operand} {v : Value} (hc : opv σ c = some (.bool false)) (hy : opv σ y = some v) : ∀ a, Ev σ n a → (execOp a.eval ⟨dst, .pick c x y, ty, pos, after, g⟩).run P w = .ok (.value v) w :=
  fun a ha => by simp [execOp, ha.eval hc, ha.eval hy, asBool]
theorem E_bin {op : BinOp} {t t' : TypeId} {x y : Operand} {k : IntKind} {i j : Int} {v : Value} (hx : opv σ x = some (.int k i)) (hy : opv σ y = some (.int k j)) (hv : evalBin op k i j = some v) :
    ∀ a, Ev σ n a → (execOp a.eval ⟨dst, .binOp op t x y t', ty, pos, after, g⟩).run P w = .ok (.value v) w :=
  fun a ha => by
    cases op <;> simp [evalBin] at hv <;> subst hv <;> simp [execOp, ha.eval hx, ha.eval hy, eqGuard, binOp, Op.intArith, Op.intBits, Op.intCmp]
theorem E_conv {s t : TypeId} {d : TypeDesc} {x : Operand} {k k' : IntKind} {i : Int} [hs : Und P s d] [ht : Und P t (.int k')] (hx : opv σ x = some (.int k i)) {j : Int} (hj : k'.wrap i = j) :
    ∀ a, Ev σ n a → (execOp a.eval ⟨dst, .convert s t x, ty, pos, after, g⟩).run P w = .ok (.value (.int k' j)) w :=
  fun a ha => by
    subst hj
    simp [execOp, ha.eval hx, convert, run_underlying hs.h, run_underlying ht.h, Conv.intToInt]
theorem E_fieldAddr {s : TypeId} {f off b o : Nat} {x : Operand} [hf : Fld P s f off] (hx : opv σ x = some (.pointer (some ⟨b, o, none⟩))) :
    ∀ a, Ev σ n a → (execOp a.eval ⟨dst, .fieldAddr s x f, ty, pos, after, g⟩).run P w = .ok (.value (.pointer (some ⟨b, o + off, none⟩))) w :=
  fun a ha => by
    obtain ⟨fs, fld, h1, h2, h3, h4⟩ := hf.h
    cases hi : P.info? fld.type with
    | none => simp [hi] at h4
    | some i =>
      have hne : i.size ≠ 0 := by simpa [hi] using h4
      subst h3
      simp [execOp, ha.eval hx, Instr.fieldAt, run_underlying h1, h2, Instr.sureAddr, fieldPlace, sizeOf, typeInfo, hi, hne, add_lit]
theorem E_load {t : TypeId} {d : TypeDesc} {x : Operand} {A : Addr} {v : Value} [hu : Und P t d] (hx : opv σ x = some (.pointer (some A))) (ha : isAggD d = false) (hc : w.cell? A = some v) :
    ∀ a, Ev σ n a → (execOp a.eval ⟨dst, .load t x, ty, pos, after, g⟩).run P w = .ok (.value v) w :=
  fun a hev => by
    simp [execOp, hev.eval hx, Instr.loadAt, Instr.sureAddr, loadVar, run_isAgg hu.h, ha, hc]
theorem E_indexAddr {t e : TypeId} {x y : Operand} {A : Addr} {l c : Nat} {k : IntKind} {i : Int} {z : Value} {size bytes : Nat} [hu : Und P t (.slice e)] [hi : Inf P e z size bytes]
    (hx : opv σ x = some (.slice (some A) l c)) (hy : opv σ y = some (.int k i)) (h0 : 0 ≤ i) (h1 : i < l) :
    ∀ a, Ev σ n a → (execOp a.eval ⟨dst, .indexAddr t x y, ty, pos, after, g⟩).run P w = .ok (.value (.pointer (some (A.add (i.toNat * size))))) w :=
  fun a ha => by
    obtain ⟨j, hi1, _, hi2, _⟩ := hi.parts
    simp [execOp, ha.eval hx, ha.eval hy, Instr.indexAt, asIntOf, run_underlying hu.h, sizeOf, typeInfo, hi1, hi2, h0, h1]
theorem E_len {t e : TypeId} {ts : Array TypeId} {args : Array Operand} {A : Option Addr} {l c : Nat} [hu : Und P t (.slice e)] (hts : ts = #[t]) (hx : opvs σ args.toList = some [.slice A l c]) :
    ∀ a, Ev σ n a → (execOp a.eval ⟨dst, .call ⟨.builtin .len, args, ts⟩, ty, pos, after, g⟩).run P w = .ok (.value (.int .i64 l)) w :=
  fun a ha => by
    subst hts
    have : args.map a.eval = #[.slice A l c] := by apply Array.ext'; rw [Array.toList_map, ha.evals hx]
    simp [execOp, resolve, this, invoke, builtin, Builtin.len_, run_underlying hu.h, goInt]
theorem E_min {ts : Array TypeId} {args : Array Operand} {k : IntKind} {i j : Int} (hx : opvs σ args.toList = some [.int k i, .int k j]) :
    ∀ a, Ev σ n a → (execOp a.eval ⟨dst, .call ⟨.builtin .min, args, ts⟩, ty, pos, after, g⟩).run P w = .ok (.value (.int k (min i j))) w :=
  fun a ha => by
    have : args.map a.eval = #[.int k i, .int k j] := by apply Array.ext'; rw [Array.toList_map, ha.evals hx]
    have hm : (if j < i then j else i) = min i j := by split <;> omega
    simp [execOp, resolve, this, invoke, builtin, Builtin.min_, Builtin.min2, hm]
theorem E_max {ts : Array TypeId} {args : Array Operand} {k : IntKind} {i j : Int} (hx : opvs σ args.toList = some [.int k i, .int k j]) :
    ∀ a, Ev σ n a → (execOp a.eval ⟨dst, .call ⟨.builtin .max, args, ts⟩, ty, pos, after, g⟩).run P w = .ok (.value (.int k (max i j))) w :=
  fun a ha => by
    have : args.map a.eval = #[.int k i, .int k j] := by apply Array.ext'; rw [Array.toList_map, ha.evals hx]
    have hm : (if j > i then j else i) = max i j := by split <;> omega
    simp [execOp, resolve, this, invoke, builtin, Builtin.max_, Builtin.max2, hm]
theorem E_not {t : TypeId} {x : Operand} {b : Bool} (hx : opv σ x = some (.bool b)) : ∀ a, Ev σ n a → (execOp a.eval ⟨dst, .unOp .not t x, ty, pos, after, g⟩).run P w = .ok (.value (.bool (!b))) w :=
  fun a ha => by simp [execOp, ha.eval hx, Op.unary]

/-- An element's address, by what the slice reads as. -/
theorem OQ_indexRd {t e : TypeId} {x y : Operand} {A : Option Addr} {l c j : Nat} {k : IntKind} {vs : List Value} {v z : Value} {size bytes : Nat} [hu : Und P t (.slice e)] [hi : Inf P e z size bytes]
    (hg : guardIs ops σ g = some true) (hd : dstOk n dst = true)
    (hx : opv σ x = some (.slice A l c)) (hy : opv σ y = some (.int k j)) (hr : ∀ w, C w → Rd w A vs) (hC : ∃ w, C w) (hv : vs[j * size]? = some v) (h1 : j < l)
    (h : ∀ a, A = some a → (∀ w, C w → w.cell? (a.add (j * size)) = some v) → OQ P n ops C rest (upd σ dst (.pointer (some (a.add (j * size))))) Q) : OQ P n ops C (⟨dst, .indexAddr t x y, ty, pos, after, g⟩ :: rest) σ Q := by
  obtain ⟨w, hw⟩ := hC
  obtain ⟨a, rfl, _⟩ := hr w hw _ _ hv
  refine OQ_value hg hd (fun w hw => ?_) (h a rfl fun w hw => ?_)
  · have := E_indexAddr (P := P) (n := n) (w := w) (dst := dst) (ty := ty) (pos := pos) (after := after) (g := g) (σ := σ) (t := t) (e := e) (z := z) (size := size) (bytes := bytes) hx hy (by omega) (by omega)
    simpa using this
  · obtain ⟨b, hb, hc⟩ := hr w hw _ _ hv
    cases hb
    exact hc

theorem OQ_part (d : Nat) {b : Bool} (hb : look σ d = some (.bool b)) (ht : b = true → OQ P n ops C rest ((d, .bool true) :: σ) Q) (hf : b = false → OQ P n ops C rest ((d, .bool false) :: σ) Q) :
    OQ P n ops C rest σ Q := fun a ha => by
  cases b with
  | true => exact ht rfl a (ha.tell hb)
  | false => exact hf rfl a (ha.tell hb)

end
end Go.Proofs.YtaglgnjamihdnaaDoor.R
