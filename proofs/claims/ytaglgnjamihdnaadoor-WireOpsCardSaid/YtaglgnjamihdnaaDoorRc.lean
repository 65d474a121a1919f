/- A rule for each kind of operation. They speak of any program. -/
import Derived.Test.YtaglgnjamihdnaaDoorRb
import Derived.Lib.MakeNoZero
namespace Go.Proofs.YtaglgnjamihdnaaDoor.R
open Go Go.RowKit

class Und (P : Program) (t : TypeId) (d : outParam TypeDesc) : Prop where
  h : P.underlying t = some d

class Inf (P : Program) (t : TypeId) (z : outParam Value) (size bytes : outParam Nat) : Prop where
  h : (P.info? t).map (fun i => (i.zero, i.size, i.bytes)) = some (some z, size, bytes)

class Entry (P : Program) (f : FuncId) : Prop where
  h : ∃ fn, P.funcs[f]? = some fn ∧ (fn.name == "runtime.NumGoroutine") = false ∧ fn.body.isNone = false

/-- Field f of the struct type s lies off cells behind its begin, and isn't empty. -/
class Fld (P : Program) (s : TypeId) (f : Nat) (off : outParam Nat) : Prop where
  h : ∃ fs fld, P.underlying s = some (.struct fs) ∧ fs[f]? = some fld ∧ fld.offset = off ∧ ((P.info? fld.type).map (·.size)).any (· != 0) = true

theorem Inf.parts {P : Program} {t : TypeId} {z : Value} {size bytes : Nat} (h : Inf P t z size bytes) : ∃ i, P.info? t = some i ∧ i.zero = some z ∧ i.size = size ∧ i.bytes = bytes := by
  have := h.h
  cases hi : P.info? t with
  | none => simp [hi] at this
  | some i => simp [hi] at this; exact ⟨i, rfl, this⟩

theorem run_equalIn_ptr_nil {P : Program} {t e : TypeId} (hu : P.underlying t = some (.pointer e)) (p : Option Addr) (w : World) (d : Nat) : (Op.equalIn (d + 1) t (.pointer p) (.pointer none)).run P w = .ok p.isNone w := by
  cases p <;> (simp only [Op.equalIn, Sem.run_bind, run_underlying hu, Result.andThen_ok]; rfl)
theorem run_equal_ptr_nil {P : Program} {t e : TypeId} (hu : P.underlying t = some (.pointer e)) (p : Option Addr) (w : World) : (Op.equal t (.pointer p) (.pointer none)).run P w = .ok p.isNone w :=
  run_equalIn_ptr_nil hu p w 9999

theorem run_equalIn_slice_nil {P : Program} {t e : TypeId} (hu : P.underlying t = some (.slice e)) (p : Option Addr) (l c l' c' : Nat) (w : World) (d : Nat) : (Op.equalIn (d + 1) t (.slice p l c) (.slice none l' c')).run P w = .ok p.isNone w := by
  cases p <;> (simp only [Op.equalIn, Sem.run_bind, run_underlying hu, Result.andThen_ok]; rfl)
theorem run_equal_slice_nil {P : Program} {t e : TypeId} (hu : P.underlying t = some (.slice e)) (p : Option Addr) (l c l' c' : Nat) (w : World) : (Op.equal t (.slice p l c) (.slice none l' c')).run P w = .ok p.isNone w :=
  run_equalIn_slice_nil hu p l c l' c' w 9999

theorem eval_const (a : Act) (v : Value) : a.eval (.const v) = v := rfl

theorem bin_eql_ptr (t : TypeId) (x y : Operand) (p q : Option Addr) : (do eqGuard .eql t x y (.pointer p) (.pointer q); binOp .eql t (.pointer p) (.pointer q)) = (do pure (.bool (← Op.equal t (.pointer p) (.pointer q))) : Sem Value) := by
  cases p <;> cases q <;> rfl
theorem bin_neq_ptr (t : TypeId) (x y : Operand) (p q : Option Addr) : (do eqGuard .neq t x y (.pointer p) (.pointer q); binOp .neq t (.pointer p) (.pointer q)) = (do pure (.bool (!(← Op.equal t (.pointer p) (.pointer q)))) : Sem Value) := by
  cases p <;> cases q <;> rfl
theorem bin_eql_slice (t : TypeId) (x y : Operand) (p q : Option Addr) (l c l' c' : Nat) : (do eqGuard .eql t x y (.slice p l c) (.slice q l' c'); binOp .eql t (.slice p l c) (.slice q l' c')) = (do pure (.bool (← Op.equal t (.slice p l c) (.slice q l' c'))) : Sem Value) := rfl

section
variable {P : Program} {n : Nat} {σ : Env} {w : World} {Q : Post} {ops : Array Oper} {rest : List Oper}
  {dst : Option Nat} {ty : TypeId} {pos : String} {after : Array Edge} {g : Option (Nat × Bool)}

theorem O_move {x : Operand} {v : Value} (hg : guardIs ops σ g = some true) (hd : dstOk n dst = true) (hx : opv σ x = some v)
    (h : O P n ops rest (upd σ dst v) w Q) : O P n ops (⟨dst, .move x, ty, pos, after, g⟩ :: rest) σ w Q :=
  O_value hg hd (fun a ha => by simp [execOp, ha.eval hx]) h

theorem O_assign {x : Operand} {v : Value} (hg : guardIs ops σ g = some true) (hd : dstOk n dst = true) (hx : opv σ x = some v)
    (h : O P n ops rest (upd σ dst v) w Q) : O P n ops (⟨dst, .assign x, ty, pos, after, g⟩ :: rest) σ w Q :=
  O_value hg hd (fun a ha => by simp [execOp, ha.eval hx]) h

theorem O_pick_true {c x y : Operand} {v : Value} (hg : guardIs ops σ g = some true) (hd : dstOk n dst = true) (hc : opv σ c = some (.bool true)) (hx : opv σ x = some v)
    (h : O P n ops rest (upd σ dst v) w Q) : O P n ops (⟨dst, .pick c x y, ty, pos, after, g⟩ :: rest) σ w Q :=
  O_value hg hd (fun a ha => by simp [execOp, ha.eval hc, ha.eval hx, asBool]) h

theorem O_pick_false {c x y : Operand} {v : Value} (hg : guardIs ops σ g = some true) (hd : dstOk n dst = true) (hc : opv σ c = some (.bool false)) (hy : opv σ y = some v)
    (h : O P n ops rest (upd σ dst v) w Q) : O P n ops (⟨dst, .pick c x y, ty, pos, after, g⟩ :: rest) σ w Q :=
  O_value hg hd (fun a ha => by simp [execOp, ha.eval hc, ha.eval hy, asBool]) h

theorem O_nilCheck {x : Operand} {A : Addr} (hg : guardIs ops σ g = some true) (hd : dstOk n dst = true) (hx : opv σ x = some (.pointer (some A)))
    (h : O P n ops rest (upd σ dst (.pointer (some A))) w Q) : O P n ops (⟨dst, .nilCheck x, ty, pos, after, g⟩ :: rest) σ w Q :=
  O_value hg hd (fun a ha => by simp [execOp, ha.eval hx]) h

/-- Whole numbers of one kind. -/
def evalBin (op : BinOp) (k : IntKind) (x y : Int) : Option Value :=
  match op with
  | .add => some (.int k (k.wrap (x + y)))
  | .sub => some (.int k (k.wrap (x - y)))
  | .mul => some (.int k (k.wrap (x * y)))
  | .and => some (.int k (k.wrap (BitVec.ofInt k.bits x &&& BitVec.ofInt k.bits y).toNat))
  | .or => some (.int k (k.wrap (BitVec.ofInt k.bits x ||| BitVec.ofInt k.bits y).toNat))
  | .xor => some (.int k (k.wrap (BitVec.ofInt k.bits x ^^^ BitVec.ofInt k.bits y).toNat))
  | .andNot => some (.int k (k.wrap (BitVec.ofInt k.bits x &&& ~~~BitVec.ofInt k.bits y).toNat))
  | .eql => some (.bool (x == y))
  | .neq => some (.bool (x != y))
  | .lss => some (.bool (decide (x < y)))
  | .leq => some (.bool (decide (x ≤ y)))
  | .gtr => some (.bool (decide (x > y)))
  | .geq => some (.bool (decide (x ≥ y)))
  | _ => none

theorem O_bin {op : BinOp} {t t' : TypeId} {x y : Operand} {k : IntKind} {i j : Int} {v : Value} (hg : guardIs ops σ g = some true) (hd : dstOk n dst = true)
    (hx : opv σ x = some (.int k i)) (hy : opv σ y = some (.int k j)) (hv : evalBin op k i j = some v)
    (h : O P n ops rest (upd σ dst v) w Q) : O P n ops (⟨dst, .binOp op t x y t', ty, pos, after, g⟩ :: rest) σ w Q :=
  O_value hg hd (fun a ha => by
    cases op <;> simp [evalBin] at hv <;> subst hv <;> simp [execOp, ha.eval hx, ha.eval hy, eqGuard, binOp, Op.intArith, Op.intBits, Op.intCmp]) h

def evalShift (op : BinOp) (k : IntKind) (x y : Int) : Option Value :=
  match op with
  | .shl => some (.int k (k.wrap (x * 2 ^ (min y.toNat k.bits))))
  | .shr => some (.int k (x.fdiv (2 ^ (min y.toNat k.bits))))
  | _ => none

theorem O_shift {op : BinOp} {t t' : TypeId} {x y : Operand} {k k' : IntKind} {i j : Int} {v : Value} (hg : guardIs ops σ g = some true) (hd : dstOk n dst = true)
    (hx : opv σ x = some (.int k i)) (hy : opv σ y = some (.int k' j)) (h0 : 0 ≤ j) (hv : evalShift op k i j = some v)
    (h : O P n ops rest (upd σ dst v) w Q) : O P n ops (⟨dst, .binOp op t x y t', ty, pos, after, g⟩ :: rest) σ w Q :=
  O_value hg hd (fun a ha => by
    have h0' : ¬ j < 0 := by omega
    cases op <;> simp [evalShift] at hv <;> subst hv <;> simp [execOp, ha.eval hx, ha.eval hy, eqGuard, binOp, Op.shift, h0']) h

/-- A pointer against nil. -/
theorem O_eql_ptr {t t' e : TypeId} {x : Operand} {p : Option Addr} [hu : Und P t (.pointer e)] (hg : guardIs ops σ g = some true) (hd : dstOk n dst = true)
    (hx : opv σ x = some (.pointer p))
    (h : O P n ops rest (upd σ dst (.bool p.isNone)) w Q) : O P n ops (⟨dst, .binOp .eql t x (.const (.pointer none)) t', ty, pos, after, g⟩ :: rest) σ w Q :=
  O_value hg hd (fun a ha => by
    simp only [execOp, ha.eval hx, eval_const, bin_eql_ptr, Sem.run_bind, run_equal_ptr_nil hu.h, Result.andThen_ok, Sem.run_pure]) h

theorem O_neq_ptr {t t' e : TypeId} {x : Operand} {p : Option Addr} [hu : Und P t (.pointer e)] (hg : guardIs ops σ g = some true) (hd : dstOk n dst = true)
    (hx : opv σ x = some (.pointer p))
    (h : O P n ops rest (upd σ dst (.bool p.isSome)) w Q) : O P n ops (⟨dst, .binOp .neq t x (.const (.pointer none)) t', ty, pos, after, g⟩ :: rest) σ w Q :=
  O_value hg hd (fun a ha => by
    cases p <;> simp only [execOp, ha.eval hx, eval_const, bin_neq_ptr, Sem.run_bind, run_equal_ptr_nil hu.h, Result.andThen_ok, Sem.run_pure] <;> rfl) h

/-- A slice against nil. -/
theorem O_eql_slice {t t' e : TypeId} {x : Operand} {p : Option Addr} {l c l' c' : Nat} [hu : Und P t (.slice e)] (hg : guardIs ops σ g = some true) (hd : dstOk n dst = true)
    (hx : opv σ x = some (.slice p l c))
    (h : O P n ops rest (upd σ dst (.bool p.isNone)) w Q) : O P n ops (⟨dst, .binOp .eql t x (.const (.slice none l' c')) t', ty, pos, after, g⟩ :: rest) σ w Q :=
  O_value hg hd (fun a ha => by
    simp only [execOp, ha.eval hx, eval_const, bin_eql_slice, Sem.run_bind, run_equal_slice_nil hu.h, Result.andThen_ok, Sem.run_pure]) h

theorem run_equalIn_bool {P : Program} {t : TypeId} (hu : P.underlying t = some .bool) (a b : Bool) (w : World) (d : Nat) : (Op.equalIn (d + 1) t (.bool a) (.bool b)).run P w = .ok (a == b) w := by
  simp only [Op.equalIn, Sem.run_bind, run_underlying hu, Result.andThen_ok]; rfl
theorem O_eql_bool {t t' : TypeId} {x y : Operand} {a b : Bool} [hu : Und P t .bool] (hg : guardIs ops σ g = some true) (hd : dstOk n dst = true)
    (hx : opv σ x = some (.bool a)) (hy : opv σ y = some (.bool b))
    (h : O P n ops rest (upd σ dst (.bool (a == b))) w Q) : O P n ops (⟨dst, .binOp .eql t x y t', ty, pos, after, g⟩ :: rest) σ w Q :=
  O_value hg hd (fun ac ha => by
    have h1 : (do eqGuard .eql t x y (.bool a) (.bool b); binOp .eql t (.bool a) (.bool b)) = (do pure (.bool (← Op.equal t (.bool a) (.bool b))) : Sem Value) := rfl
    have h2 : (Op.equal t (.bool a) (.bool b)).run P w = .ok (a == b) w := run_equalIn_bool hu.h a b w 9999
    simp only [execOp, ha.eval hx, ha.eval hy, h1, Sem.run_bind, h2, Result.andThen_ok, Sem.run_pure]) h

theorem O_not {t : TypeId} {x : Operand} {b : Bool} (hg : guardIs ops σ g = some true) (hd : dstOk n dst = true) (hx : opv σ x = some (.bool b))
    (h : O P n ops rest (upd σ dst (.bool (!b))) w Q) : O P n ops (⟨dst, .unOp .not t x, ty, pos, after, g⟩ :: rest) σ w Q :=
  O_value hg hd (fun a ha => by simp [execOp, ha.eval hx, Op.unary]) h

def evalUn (op : UnOp) (k : IntKind) (x : Int) : Option Value :=
  match op with
  | .neg => some (.int k (k.wrap (0 - x)))
  | .xor => some (.int k (k.wrap (BitVec.ofInt k.bits (if k.signed then -1 else k.max) ^^^ BitVec.ofInt k.bits x).toNat))
  | _ => none

theorem O_un {op : UnOp} {t : TypeId} {x : Operand} {k : IntKind} {i : Int} {v : Value} (hg : guardIs ops σ g = some true) (hd : dstOk n dst = true) (hx : opv σ x = some (.int k i)) (hv : evalUn op k i = some v)
    (h : O P n ops rest (upd σ dst v) w Q) : O P n ops (⟨dst, .unOp op t x, ty, pos, after, g⟩ :: rest) σ w Q :=
  O_value hg hd (fun a ha => by
    cases op <;> simp [evalUn] at hv <;> subst hv <;> simp [execOp, ha.eval hx, Op.unary, Op.intArith, Op.intBits]) h

/-- Numbers turned into another kind. -/
theorem O_conv {s t : TypeId} {d : TypeDesc} {x : Operand} {k k' : IntKind} {i : Int} [hs : Und P s d] [ht : Und P t (.int k')] (hg : guardIs ops σ g = some true) (hd : dstOk n dst = true)
    (hx : opv σ x = some (.int k i)) {j : Int} (hj : k'.wrap i = j)
    (h : O P n ops rest (upd σ dst (.int k' j)) w Q) : O P n ops (⟨dst, .convert s t x, ty, pos, after, g⟩ :: rest) σ w Q :=
  O_value hg hd (fun a ha => by
    subst hj
    simp [execOp, ha.eval hx, convert, run_underlying hs.h, run_underlying ht.h, Conv.intToInt]) h

theorem O_fieldAddr {s : TypeId} {f off b o : Nat} {x : Operand} [hf : Fld P s f off] (hg : guardIs ops σ g = some true) (hd : dstOk n dst = true)
    (hx : opv σ x = some (.pointer (some ⟨b, o, none⟩)))
    (h : O P n ops rest (upd σ dst (.pointer (some ⟨b, o + off, none⟩))) w Q) : O P n ops (⟨dst, .fieldAddr s x f, ty, pos, after, g⟩ :: rest) σ w Q :=
  O_value hg hd (fun a ha => by
    obtain ⟨fs, fld, h1, h2, h3, h4⟩ := hf.h
    cases hi : P.info? fld.type with
    | none => simp [hi] at h4
    | some i =>
      have hne : i.size ≠ 0 := by simpa [hi] using h4
      subst h3
      simp [execOp, ha.eval hx, Instr.fieldAt, run_underlying h1, h2, Instr.sureAddr, fieldPlace, sizeOf, typeInfo, hi, hne, add_lit]) h

def isAggD : TypeDesc → Bool
  | .struct _ | .array _ _ => true
  | _ => false

theorem run_isAgg {t : TypeId} {d : TypeDesc} (hu : P.underlying t = some d) (w : World) : (isAgg t).run P w = .ok (isAggD d) w := by
  unfold isAgg
  rw [Sem.run_bind, run_underlying hu w]
  cases d <;> simp [isAggD]

/-- One cell is read. -/
theorem O_load {t : TypeId} {d : TypeDesc} {x : Operand} {A : Addr} {v : Value} [hu : Und P t d] (hg : guardIs ops σ g = some true) (hd : dstOk n dst = true)
    (hx : opv σ x = some (.pointer (some A))) (ha : isAggD d = false) (hc : w.cell? A = some v)
    (h : O P n ops rest (upd σ dst v) w Q) : O P n ops (⟨dst, .load t x, ty, pos, after, g⟩ :: rest) σ w Q :=
  O_value hg hd (fun a hev => by
    simp [execOp, hev.eval hx, Instr.loadAt, Instr.sureAddr, loadVar, run_isAgg hu.h, ha, hc]) h

/-- A struct or an array is read. -/
theorem O_loadAgg {t : TypeId} {d : TypeDesc} {x : Operand} {A : Addr} {vs : List Value} {z : Value} {size bytes : Nat} [hu : Und P t d] [hi : Inf P t z size bytes]
    (hg : guardIs ops σ g = some true) (hd : dstOk n dst = true)
    (hx : opv σ x = some (.pointer (some A))) (ha : isAggD d = true) (hl : vs.length = size) (hc : Rd w (some A) vs)
    (h : O P n ops rest (upd σ dst (.agg vs.toArray)) w Q) : O P n ops (⟨dst, .load t x, ty, pos, after, g⟩ :: rest) σ w Q :=
  O_value hg hd (fun a hev => by
    obtain ⟨i, hi1, _, hi2, _⟩ := hi.parts
    have hlc := run_loadCells_list (P := P) w A vs (fun j v hv => by obtain ⟨b, hb, hc'⟩ := hc j v hv; cases hb; exact hc')
    rw [hl] at hlc
    simp [execOp, hev.eval hx, Instr.loadAt, Instr.sureAddr, loadVar, run_isAgg hu.h, ha, sizeOf, typeInfo, hi1, hi2, hlc]) h

/-- One cell of the first group's block is written. -/
theorem O_store {t : TypeId} {x y : Operand} {z : Value} {bytes : Nat} {w0 : World} {F : List Nat} {Gs : List (List Chunk)} {b off : Nat} {c : Array Value} {e : TypeId} {v : Value} [hi : Inf P t z 1 bytes]
    (hS : St w0 F ([(b, .cells c e (0, 0))] :: Gs) w) (hg : guardIs ops σ g = some true)
    (hx : opv σ x = some (.pointer (some ⟨b, off, none⟩))) (hy : opv σ y = some v) (hv : v.oneCell' = true) (hc : off < c.size)
    (h : ∀ w', St w0 F ([(b, .cells (c.setIfInBounds off v) e (0, 0))] :: Gs) w' → O P n ops rest σ w' Q) : O P n ops (⟨none, .store t x y, ty, pos, after, g⟩ :: rest) σ w Q :=
  O_none hg rfl (fun a ha => by
    obtain ⟨i, hi1, _, hi2, _⟩ := hi.parts
    have hcell : w.cell? ⟨b, off, none⟩ = some c[off] := hS.cell (by simp)
    have hcell' : w.cell? ((⟨b, off, none⟩ : Addr).add 0) = some c[off] := by simpa [Addr.add] using hcell
    have hfz : w.frozen? ⟨b, off, none⟩ = false := by simp [World.frozen?, hS.first]
    have hcs : v.cells = #[v] := by cases v <;> first | rfl | simp [Value.oneCell'] at hv
    have hst := run_store P w ⟨b, off, none⟩ v .plain hv
    rw [hcell] at hst
    simp only [hfz] at hst
    simp only [execOp, ha.eval hx, ha.eval hy, Instr.storeAt, Instr.sureAddr, storeVar, hcs, sizeOf, typeInfo, Sem.run_bind, Sem.run_pure, Result.andThen_ok, run_program, hi1, hi2]
    simp [storeCells, Addr.add, hst]) (h _ (hS.setCell off v))

/-- A variable of its own, with a value. -/
theorem O_box {t : TypeId} {x : Operand} {v : Value} {w0 : World} {F : List Nat} {Gs : List (List Chunk)} (hS : St w0 F Gs w) (hg : guardIs ops σ g = some true) (hd : dstOk n dst = true)
    (hx : opv σ x = some v)
    (h : ∀ b w', St w0 F ([(b, .cells v.cells t (0, 0))] :: Gs) w' → O P n ops rest (upd σ dst (.pointer (some ⟨b, 0, none⟩))) w' Q) : O P n ops (⟨dst, .box t x, ty, pos, after, g⟩ :: rest) σ w Q :=
  O_value hg hd (fun a ha => by simp [execOp, ha.eval hx, Instr.box, newVar, newRow]) (h _ _ (hS.alloc _))

/-- A variable of its own, of its zero value. -/
theorem O_alloc {t : TypeId} {z : Value} {size bytes : Nat} [hi : Inf P t z size bytes] {w0 : World} {F : List Nat} {Gs : List (List Chunk)} (hS : St w0 F Gs w) (hg : guardIs ops σ g = some true) (hd : dstOk n dst = true)
    (h : ∀ b w', St w0 F ([(b, .cells z.cells t (0, 0))] :: Gs) w' → O P n ops rest (upd σ dst (.pointer (some ⟨b, 0, none⟩))) w' Q) : O P n ops (⟨dst, .alloc t, ty, pos, after, g⟩ :: rest) σ w Q :=
  O_value hg hd (fun a ha => by
    obtain ⟨i, hi1, hi2, _⟩ := hi.parts
    simp [execOp, Instr.alloc, zeroValue, typeInfo, hi1, hi2, newVar, newRow]) (h _ _ (hS.alloc _))

/-- A struct or an array out of parts. -/
theorem O_build {t : TypeId} {parts : Array (Nat × Operand)} {vs : List Value} {c : Array Value} (hg : guardIs ops σ g = some true) (hd : dstOk n dst = true)
    (hv : opvs σ (parts.toList.map (·.2)) = some vs) (hrun : ∀ w, (Instr.build t ((parts.toList.map (·.1)).zip vs).toArray).run P w = .ok (.agg c) w)
    (h : O P n ops rest (upd σ dst (.agg c)) w Q) : O P n ops (⟨dst, .build t parts, ty, pos, after, g⟩ :: rest) σ w Q :=
  O_value hg hd (fun a ha => by
    have : parts.map (fun (i, x) => (i, a.eval x)) = ((parts.toList.map (·.1)).zip vs).toArray := by
      apply Array.ext'
      rw [← ha.evals hv]
      simp only [Array.toList_map, List.map_map]
      rw [List.zip_map']
      rfl
    simp only [execOp, this, Sem.run_bind, hrun, Result.andThen_ok, Sem.run_pure]) h

theorem O_buildSlice {t e : TypeId} {len : Nat} {parts : Array (Nat × Operand)} {vs : List Value} {c : Array Value} {w0 : World} {F : List Nat} {Gs : List (List Chunk)} (hS : St w0 F Gs w)
    (hg : guardIs ops σ g = some true) (hd : dstOk n dst = true)
    (hv : opvs σ (parts.toList.map (·.2)) = some vs)
    (hrun : ∀ w, (Instr.buildSlice t len ((parts.toList.map (·.1)).zip vs).toArray).run P w = .ok (.slice (some ⟨w.heap.size, 0, none⟩) len len) { w with heap := w.heap.push (.cells c e) })
    (h : ∀ b w', St w0 F ([(b, .cells c e (0, 0))] :: Gs) w' → O P n ops rest (upd σ dst (.slice (some ⟨b, 0, none⟩) len len)) w' Q) : O P n ops (⟨dst, .buildSlice t len parts, ty, pos, after, g⟩ :: rest) σ w Q :=
  O_value hg hd (fun a ha => by
    have : parts.map (fun (i, x) => (i, a.eval x)) = ((parts.toList.map (·.1)).zip vs).toArray := by
      apply Array.ext'
      rw [← ha.evals hv]
      simp only [Array.toList_map, List.map_map]
      rw [List.zip_map']
      rfl
    simp only [execOp, this, Sem.run_bind, hrun, Result.andThen_ok, Sem.run_pure]; rfl) (h _ _ (hS.alloc _))

/-- The address of an element. -/
theorem O_indexAddr {t e : TypeId} {x y : Operand} {A : Addr} {l c : Nat} {k : IntKind} {i : Int} {z : Value} {size bytes : Nat} [hu : Und P t (.slice e)] [hi : Inf P e z size bytes]
    (hg : guardIs ops σ g = some true) (hd : dstOk n dst = true)
    (hx : opv σ x = some (.slice (some A) l c)) (hy : opv σ y = some (.int k i)) (h0 : 0 ≤ i) (h1 : i < l)
    (h : O P n ops rest (upd σ dst (.pointer (some (A.add (i.toNat * size))))) w Q) : O P n ops (⟨dst, .indexAddr t x y, ty, pos, after, g⟩ :: rest) σ w Q :=
  O_value hg hd (fun a ha => by
    obtain ⟨j, hi1, _, hi2, _⟩ := hi.parts
    simp [execOp, ha.eval hx, ha.eval hy, Instr.indexAt, asIntOf, run_underlying hu.h, sizeOf, typeInfo, hi1, hi2, h0, h1]) h

/-- The first ones of a slice. -/
theorem O_slice_to {t e : TypeId} {x y : Operand} {A : Option Addr} {l c : Nat} {k : IntKind} {i : Nat} {z : Value} {size bytes : Nat} [hu : Und P t (.slice e)] [hi : Inf P e z size bytes]
    (hg : guardIs ops σ g = some true) (hd : dstOk n dst = true)
    (hx : opv σ x = some (.slice A l c)) (hy : opv σ y = some (.int k i)) (h1 : i ≤ c)
    (h : O P n ops rest (upd σ dst (.slice A i c)) w Q) : O P n ops (⟨dst, .slice t x none (some y) none, ty, pos, after, g⟩ :: rest) σ w Q :=
  O_value hg hd (fun a ha => by
    obtain ⟨j, hi1, _, hi2, _⟩ := hi.parts
    have h2 : ¬ c < i := by omega
    have hA : A.map (fun x => x.add 0) = A := by cases A <;> simp [Addr.add]
    simp [execOp, ha.eval hx, ha.eval hy, Instr.sliceAt, Instr.slice, Instr.sliceBounds, Instr.sliceBound, asIntOf, run_underlying hu.h, sizeOf, typeInfo, hi1, hA]; exact fun hh => (h2 hh).elim) h

/-- What is behind the first ones. -/
theorem O_slice_from {t e : TypeId} {x y : Operand} {A : Option Addr} {l c : Nat} {k : IntKind} {i : Nat} {z : Value} {size bytes : Nat} [hu : Und P t (.slice e)] [hi : Inf P e z size bytes]
    (hg : guardIs ops σ g = some true) (hd : dstOk n dst = true)
    (hx : opv σ x = some (.slice A l c)) (hy : opv σ y = some (.int k i)) (h1 : i ≤ l)
    (h : O P n ops rest (upd σ dst (.slice (if c = i then A else A.map (·.add (i * size))) (l - i) (c - i))) w Q) : O P n ops (⟨dst, .slice t x (some y) none none, ty, pos, after, g⟩ :: rest) σ w Q :=
  O_value hg hd (fun a ha => by
    obtain ⟨j, hi1, _, hi2, _⟩ := hi.parts
    have h2 : ¬ l < i := by omega
    simp [execOp, ha.eval hx, ha.eval hy, Instr.sliceAt, Instr.slice, Instr.sliceBounds, Instr.sliceBound, asIntOf, run_underlying hu.h, sizeOf, typeInfo, hi1, hi2]; exact fun hh => (h2 hh).elim) h

theorem O_extract {x : Operand} {vs : Array Value} {i : Nat} {v : Value} (hg : guardIs ops σ g = some true) (hd : dstOk n dst = true) (hx : opv σ x = some (.tuple vs)) (hi : vs[i]? = some v)
    (h : O P n ops rest (upd σ dst v) w Q) : O P n ops (⟨dst, .extract x i, ty, pos, after, g⟩ :: rest) σ w Q :=
  O_value hg hd (fun a ha => by simp [execOp, ha.eval hx, Instr.extract, hi]) h

/-- A list of bytes out of a text's: the room behind it is marked. -/
theorem O_stringish {t e : TypeId} {x : Operand} {b l c : Nat} {cs : Array Value} {w0 : World} {F : List Nat} {Gs : List (List Chunk)} [hu : Und P t (.slice e)] [he : Und P e (.int .u8)] (hS : St w0 F ([(b, .cells cs e (0, 0))] :: Gs) w)
    (hg : guardIs ops σ g = some true) (hd : dstOk n dst = true) (hx : opv σ x = some (.slice (some ⟨b, 0, none⟩) l c))
    (h : ∀ w', St w0 F ([(b, .cells cs e (cs.size, cs.size + 1))] :: Gs) w' → O P n ops rest (upd σ dst (.slice (some ⟨b, 0, none⟩) l c)) w' Q) : O P n ops (⟨dst, .convert t t x, ty, pos, after, g⟩ :: rest) σ w Q :=
  O_value (w' := w.freeze ⟨b, cs.size, none⟩ 1) hg hd (fun a ha => by
    have hsh : w.shape? b = some (e, cs.size) := by simp [World.shape?, hS.first]
    simp [execOp, ha.eval hx, convert, run_underlying hu.h, run_underlying he.h, markStringish, hsh]) (h _ (by
    refine hS.turn rfl rfl rfl (by simp [World.freeze]) ?_ (fun k hk => ?_)
    · simp [World.freeze, Array.getElem?_modify, hS.first]
    · simp only [World.freeze, Nat.succ_ne_zero, if_false, Array.getElem?_modify]
      rw [if_neg (Ne.symm hk)]))

/-- The address of an element of a block of the call's own. -/
theorem O_indexOwn {t e : TypeId} {x y : Operand} {b off l c j : Nat} {k : IntKind} {z : Value} {size bytes : Nat} [hu : Und P t (.slice e)] [hi : Inf P e z size bytes]
    (hg : guardIs ops σ g = some true) (hd : dstOk n dst = true)
    (hx : opv σ x = some (.slice (some ⟨b, off, none⟩) l c)) (hy : opv σ y = some (.int k j)) (h1 : j < l)
    (h : O P n ops rest (upd σ dst (.pointer (some ⟨b, off + j * size, none⟩))) w Q) : O P n ops (⟨dst, .indexAddr t x y, ty, pos, after, g⟩ :: rest) σ w Q :=
  O_value hg hd (fun a ha => by
    obtain ⟨i, hi1, _, hi2, _⟩ := hi.parts
    have h2 : ¬ l ≤ j := by omega
    simp [execOp, ha.eval hx, ha.eval hy, Instr.indexAt, asIntOf, run_underlying hu.h, sizeOf, typeInfo, hi1, hi2, add_lit]; exact fun hh => (h2 hh).elim) h

/-- A whole of an array, through its address. -/
theorem O_slice_array {t e : TypeId} {x : Operand} {A : Addr} {m : Nat} {z : Value} {size bytes : Nat} [hu : Und P t (.array m e)] [hi : Inf P e z size bytes]
    (hg : guardIs ops σ g = some true) (hd : dstOk n dst = true) (hx : opv σ x = some (.pointer (some A)))
    (h : O P n ops rest (upd σ dst (.slice (some A) m m)) w Q) : O P n ops (⟨dst, .slice t x none none none, ty, pos, after, g⟩ :: rest) σ w Q :=
  O_value hg hd (fun a ha => by
    obtain ⟨i, hi1, _, hi2, _⟩ := hi.parts
    have hA : A.add 0 = A := by simp [Addr.add]
    simp [execOp, ha.eval hx, Instr.sliceAt, Instr.sureAddr, Instr.sliceBounds, run_underlying hu.h, sizeOf, typeInfo, hi1, hA]) h

/-- The first ones, and no room behind them. -/
theorem O_slice_to3 {t e : TypeId} {x y y' : Operand} {A : Option Addr} {l c : Nat} {k k' : IntKind} {i : Nat} {z : Value} {size bytes : Nat} [hu : Und P t (.slice e)] [hi : Inf P e z size bytes]
    (hg : guardIs ops σ g = some true) (hd : dstOk n dst = true)
    (hx : opv σ x = some (.slice A l c)) (hy : opv σ y = some (.int k i)) (hy' : opv σ y' = some (.int k' i)) (h1 : i ≤ c)
    (h : O P n ops rest (upd σ dst (.slice A i i)) w Q) : O P n ops (⟨dst, .slice t x none (some y) (some y'), ty, pos, after, g⟩ :: rest) σ w Q :=
  O_value hg hd (fun a ha => by
    obtain ⟨j, hi1, _, hi2, _⟩ := hi.parts
    have h2 : ¬ c < i := by omega
    have hA : A.map (fun x => x.add 0) = A := by cases A <;> simp [Addr.add]
    simp [execOp, ha.eval hx, ha.eval hy, ha.eval hy', Instr.sliceAt, Instr.slice, Instr.sliceBounds, Instr.sliceBound, asIntOf, run_underlying hu.h, sizeOf, typeInfo, hi1, hA]; exact fun hh => (h2 hh).elim) h

/-- The rest of a division, of numbers from 0 on. -/
theorem O_rem {t t' : TypeId} {x y : Operand} {i j : Nat} (hg : guardIs ops σ g = some true) (hd : dstOk n dst = true)
    (hx : opv σ x = some (.int .i64 i)) (hy : opv σ y = some (.int .i64 j)) (h0 : 0 < j)
    (h : O P n ops rest (upd σ dst (.int .i64 ((i % j : Nat) : Int))) w Q) : O P n ops (⟨dst, .binOp .rem t x y t', ty, pos, after, g⟩ :: rest) σ w Q :=
  O_value hg hd (fun a ha => by
    have h2 : ¬ (j : Int) = 0 := by omega
    have h3 : (i : Int).tmod (j : Int) = ((i % j : Nat) : Int) := rfl
    simp only [execOp, ha.eval hx, ha.eval hy]
    have h7 : eqGuard .rem t x y (.int .i64 (i : Int)) (.int .i64 (j : Int)) = pure () := rfl
    have h8 : (binOp .rem t (.int .i64 (i : Int)) (.int .i64 (j : Int))).run P w = .ok (.int .i64 ((i % j : Nat) : Int)) w := by
      show (Op.intDiv .rem .i64 (i : Int) (j : Int)).run P w = _
      unfold Op.intDiv
      simp only [h3, if_neg h2, Sem.run_pure]
    simp only [h7, Sem.run_bind, Sem.run_pure, Result.andThen_ok, h8]) h

/-! ### calls -/

theorem O_len {t e : TypeId} {ts : Array TypeId} {args : Array Operand} {A : Option Addr} {l c : Nat} [hu : Und P t (.slice e)] (hts : ts = #[t]) (hg : guardIs ops σ g = some true) (hd : dstOk n dst = true)
    (hx : opvs σ args.toList = some [.slice A l c])
    (h : O P n ops rest (upd σ dst (.int .i64 l)) w Q) : O P n ops (⟨dst, .call ⟨.builtin .len, args, ts⟩, ty, pos, after, g⟩ :: rest) σ w Q :=
  O_value hg hd (fun a ha => by
    subst hts
    have : args.map a.eval = #[.slice A l c] := by apply Array.ext'; rw [Array.toList_map, ha.evals hx]
    simp [execOp, resolve, this, invoke, builtin, Builtin.len_, run_underlying hu.h, goInt]) h

theorem O_len_str {t : TypeId} {ts : Array TypeId} {args : Array Operand} {s : ByteArray} [hu : Und P t .string] (hts : ts = #[t]) (hg : guardIs ops σ g = some true) (hd : dstOk n dst = true)
    (hx : opvs σ args.toList = some [.string s])
    (h : O P n ops rest (upd σ dst (.int .i64 s.size)) w Q) : O P n ops (⟨dst, .call ⟨.builtin .len, args, ts⟩, ty, pos, after, g⟩ :: rest) σ w Q :=
  O_value hg hd (fun a ha => by
    subst hts
    have : args.map a.eval = #[.string s] := by apply Array.ext'; rw [Array.toList_map, ha.evals hx]
    simp [execOp, resolve, this, invoke, builtin, Builtin.len_, run_underlying hu.h, goInt]) h

theorem O_min {ts : Array TypeId} {args : Array Operand} {k : IntKind} {i j : Int} (hg : guardIs ops σ g = some true) (hd : dstOk n dst = true)
    (hx : opvs σ args.toList = some [.int k i, .int k j])
    (h : O P n ops rest (upd σ dst (.int k (min i j))) w Q) : O P n ops (⟨dst, .call ⟨.builtin .min, args, ts⟩, ty, pos, after, g⟩ :: rest) σ w Q :=
  O_value hg hd (fun a ha => by
    have : args.map a.eval = #[.int k i, .int k j] := by apply Array.ext'; rw [Array.toList_map, ha.evals hx]
    have hm : (if j < i then j else i) = min i j := by split <;> omega
    simp [execOp, resolve, this, invoke, builtin, Builtin.min_, Builtin.min2, hm]) h

theorem O_max {ts : Array TypeId} {args : Array Operand} {k : IntKind} {i j : Int} (hg : guardIs ops σ g = some true) (hd : dstOk n dst = true)
    (hx : opvs σ args.toList = some [.int k i, .int k j])
    (h : O P n ops rest (upd σ dst (.int k (max i j))) w Q) : O P n ops (⟨dst, .call ⟨.builtin .max, args, ts⟩, ty, pos, after, g⟩ :: rest) σ w Q :=
  O_value hg hd (fun a ha => by
    have : args.map a.eval = #[.int k i, .int k j] := by apply Array.ext'; rw [Array.toList_map, ha.evals hx]
    have hm : (if j > i then j else i) = max i j := by split <;> omega
    simp [execOp, resolve, this, invoke, builtin, Builtin.max_, Builtin.max2, hm]) h

/-- append onto a slice of the call's own: the first group. -/
theorem O_append {t e : TypeId} {ts : Array TypeId} {args : Array Operand} {z : Value} {size bytes : Nat} {w0 : World} {F : List Nat} {G : List Chunk} {Gs : List (List Chunk)} {v : Value} {k m c : Nat} {A : Option Addr} {xs news : List Value}
    [hu : Und P t (.slice e)] [hi : Inf P e z size bytes] (hS : St w0 F (G :: Gs) w) (hR : Row e size v k xs G) (hts : ts = #[t, t]) (hzs : z.cells.size = size) (hsz : 0 < size)
    (hg : guardIs ops σ g = some true) (hd : dstOk n dst = true)
    (hx : opvs σ args.toList = some [v, .slice A m c]) (hl : news.length = m * size) (hr : Rd w A news) (h1 : ∀ u ∈ news, u.oneCell' = true) (hb : (k + m) * bytes ≤ 140737488355328) (h63 : k + m ≤ maxLen)
    (h : ∀ v' G' w', Row e size v' (k + m) (xs ++ news) G' → St w0 F (G' :: Gs) w' → O P n ops rest (upd σ dst v') w' Q) : O P n ops (⟨dst, .call ⟨.builtin .append, args, ts⟩, ty, pos, after, g⟩ :: rest) σ w Q := by
  obtain ⟨i, hi1, hi2, hi3, hi4⟩ := hi.parts
  obtain ⟨v', w', G', hrun, hR', hS'⟩ := Row.append (P := P) (c := c) t ty i z bytes hu.h hi1 hi2 hi3 hi4 hzs hsz hS hR hl hr h1 h63 hb
  refine O_value hg hd (fun a ha => ?_) (h v' G' w' hR' hS')
  subst hts
  have : args.map a.eval = #[v, .slice A m c] := by apply Array.ext'; rw [Array.toList_map, ha.evals hx]
  simp only [execOp, resolve, invoke, builtin, Sem.run_bind, Sem.run_pure, Result.andThen_ok, this, hrun]

/-- A named function, by what is known of it. -/
theorem O_call {f : FuncId} {ts : Array TypeId} {args : Array Operand} {vs : List Value} {R : Value → World → Prop} [hf : Entry P f] (hg : guardIs ops σ g = some true) (hd : dstOk n dst = true)
    (hx : opvs σ args.toList = some vs) (hc : Calls P f vs.toArray w (Ret R))
    (h : ∀ v w', R v w' → O P n ops rest (upd σ dst v) w' Q) : O P n ops (⟨dst, .call ⟨.value (.func f), args, ts⟩, ty, pos, after, g⟩ :: rest) σ w Q := by
  obtain ⟨fn, h1, h2, h3⟩ := hf.h
  refine O_enter (f := f) (vs := vs.toArray) (w' := w) hg hd (fun a ha => ?_) hc (fun e w' ⟨v, he, hr⟩ => ⟨v, he, h v w' hr⟩)
  have : args.map a.eval = vs.toArray := by apply Array.ext'; rw [Array.toList_map, ha.evals hx]
  have h3' : fn.body.isNone = false := h3
  simp only [execOp, resolve, this, Act.eval, Deferred.ofValue, invoke, callFunc, h1, h2, h3', Sem.run_bind, Sem.run_pure, Result.andThen_ok, run_program, Array.empty_append, Array.append_empty, if_false, Bool.false_eq_true]

end
/-! ### slices of one-cell elements, written out -/

theorem fill_one : ∀ (vs : List Value) (k : Nat) (cells : Array Value), (∀ v ∈ vs, v.oneCell' = true) → k + vs.length ≤ cells.size →
    ∃ r, Instr.fill (fun i => some (i * 1, 1)) cells ((List.range' k vs.length).zip vs) = some r ∧ r.size = cells.size ∧ ∀ i, r[i]? = if k ≤ i ∧ i < k + vs.length then vs[i - k]? else cells[i]? := by
  intro vs
  induction vs with
  | nil => intro k cells _ _; exact ⟨cells, rfl, rfl, fun i => by rw [if_neg (by simp)]⟩
  | cons v vs ih =>
    intro k cells h1 hk
    have hv : v.cells = #[v] := by have := h1 v (by simp); cases v <;> first | rfl | simp [Value.oneCell'] at this
    simp only [List.length_cons] at hk
    obtain ⟨r, hr, hs, hg⟩ := ih (k + 1) (cells.setIfInBounds k v) (fun u hu => h1 u (by simp [hu])) (by simp; omega)
    refine ⟨r, ?_, by simpa using hs, fun i => ?_⟩
    · simp only [List.length_cons, List.range'_succ, List.zip_cons_cons, Instr.fill, hv]
      rw [if_neg (by simp; omega)]
      simpa using hr
    · rw [hg i]
      by_cases hi : i = k
      · subst hi
        rw [if_neg (by omega), if_pos (by simp)]
        have : i < cells.size := by omega
        simp [this]
      · by_cases h2 : k + 1 ≤ i ∧ i < k + 1 + vs.length
        · rw [if_pos h2, if_pos (by simp; omega)]
          rw [show i - k = (i - (k + 1)) + 1 by omega]
          simp
        · rw [if_neg h2, if_neg (by simp; omega)]
          simp [Ne.symm hi]

theorem run_lit {P : Program} {t e : TypeId} {z : Value} {bytes : Nat} (hu : P.underlying t = some (.slice e)) (hi : Inf P e z 1 bytes) (vs : List Value) (h1 : ∀ v ∈ vs, v.oneCell' = true) (hl : vs.length ≤ 16777216) (w : World) :
    (Instr.buildSlice t vs.length ((List.range vs.length).zip vs).toArray).run P w = .ok (.slice (some ⟨w.heap.size, 0, none⟩) vs.length vs.length) { w with heap := w.heap.push (.cells vs.toArray e) } := by
  obtain ⟨i, hi1, hi2, hi3, _⟩ := hi.parts
  have key : ∀ cells : Array Value, cells.size = vs.length → Instr.fill (fun i => some (i * 1, 1)) cells ((List.range vs.length).zip vs) = some vs.toArray := by
    intro cells hc
    obtain ⟨r, hr, hs, hg⟩ := fill_one vs 0 cells h1 (by omega)
    rw [List.range_eq_range', hr]
    congr 1
    apply Array.ext (by simp [hs, hc])
    intro j hj hj'
    have := hg j
    rw [if_pos (by omega)] at this
    simp only [Nat.sub_zero] at this
    simp at hj'
    rw [Array.getElem?_eq_getElem hj, List.getElem?_eq_getElem hj'] at this
    simpa using this
  unfold Instr.buildSlice
  have hl' : ¬ vs.length * 1 > 2 ^ 24 := by omega
  by_cases h0 : vs.length = 0
  · have : vs = [] := List.eq_nil_of_length_eq_zero h0
    subst this
    simp [run_underlying hu, sizeOf, typeInfo, hi1, Instr.fill, newRow, show Array.range 0 = #[] from by simp [Array.range]]
  · have h0' : ¬ vs.length * 1 = 0 := by omega
    simp only [Sem.run_bind, run_underlying hu, Result.andThen_ok, sizeOf, typeInfo, run_program, hi1, Sem.run_pure, hi3, hl', h0', if_false, zeroValue, hi2]
    rw [key _ (by simp)]
    simp [newRow]

section
variable {P : Program} {n : Nat} {σ : Env} {w : World} {Q : Post} {ops : Array Oper} {rest : List Oper}
  {dst : Option Nat} {ty : TypeId} {pos : String} {after : Array Edge} {g : Option (Nat × Bool)}

theorem O_lit {t e : TypeId} {len : Nat} {parts : Array (Nat × Operand)} {vs : List Value} {z : Value} {bytes : Nat} {w0 : World} {F : List Nat} {Gs : List (List Chunk)} [hu : Und P t (.slice e)] [hi : Inf P e z 1 bytes] (hS : St w0 F Gs w)
    (hg : guardIs ops σ g = some true) (hd : dstOk n dst = true)
    (hv : opvs σ (parts.toList.map (·.2)) = some vs) (hl : vs.length = len) (hix : parts.toList.map (·.1) = List.range len) (h1 : vs.all (·.oneCell') = true) (hlen : len ≤ 16777216)
    (h : ∀ b w', St w0 F ([(b, .cells vs.toArray e (0, 0))] :: Gs) w' → O P n ops rest (upd σ dst (.slice (some ⟨b, 0, none⟩) len len)) w' Q) : O P n ops (⟨dst, .buildSlice t len parts, ty, pos, after, g⟩ :: rest) σ w Q := by
  subst hl
  exact O_buildSlice hS hg hd hv (fun w => by rw [hix]; exact run_lit hu.h hi vs (by simpa using h1) hlen w) h

/-- The address of an element of a slice of which it is known what it reads. -/
theorem O_indexRd {t e : TypeId} {x y : Operand} {A : Option Addr} {l c j : Nat} {k : IntKind} {vs : List Value} {v z : Value} {size bytes : Nat} [hu : Und P t (.slice e)] [hi : Inf P e z size bytes]
    (hg : guardIs ops σ g = some true) (hd : dstOk n dst = true)
    (hx : opv σ x = some (.slice A l c)) (hy : opv σ y = some (.int k j)) (hr : Rd w A vs) (hv : vs[j * size]? = some v) (h1 : j < l)
    (h : ∀ a, A = some a → w.cell? (a.add (j * size)) = some v → O P n ops rest (upd σ dst (.pointer (some (a.add (j * size))))) w Q) : O P n ops (⟨dst, .indexAddr t x y, ty, pos, after, g⟩ :: rest) σ w Q := by
  obtain ⟨a, rfl, hc⟩ := hr _ _ hv
  exact O_indexAddr hg hd hx hy (by omega) (by omega) (by simpa using h a rfl hc)

end

section
variable {P : Program} {n : Nat} {σ : Env} {w : World} {Q : Post} {ops : Array Oper} {rest : List Oper}
  {dst : Option Nat} {ty : TypeId} {pos : String} {after : Array Edge} {g : Option (Nat × Bool)}

/-- copy onto a block of the call's own: the first group's. -/
theorem O_copy {dT sT e : TypeId} {ts : Array TypeId} {args : Array Operand} {z : Value} {bytes : Nat} {w0 : World} {F : List Nat} {Gs : List (List Chunk)} {b off dl dc m sc : Nat} {c : Array Value} {e' : TypeId} {D A : Option Addr} {news : List Value}
    [hu : Und P dT (.slice e)] [hi : Inf P e z 1 bytes] (hS : St w0 F ([(b, .cells c e' (0, 0))] :: Gs) w) (hts : ts = #[dT, sT]) (hg : guardIs ops σ g = some true) (hd : dstOk n dst = true)
    (hx : opvs σ args.toList = some [.slice D dl dc, .slice A m sc]) (hl : news.length = Nat.min m dl) (hD : news = [] ∨ D = some ⟨b, off, none⟩) (hr : Rd w A news) (h1 : ∀ v ∈ news, v.oneCell' = true) (hfit : off + news.length ≤ c.size)
    (h : ∀ w', St w0 F ([(b, .cells (c.toList.take off ++ news ++ c.toList.drop (off + news.length)).toArray e' (0, 0))] :: Gs) w' → O P n ops rest (upd σ dst (.int .i64 news.length)) w' Q) : O P n ops (⟨dst, .call ⟨.builtin .copy, args, ts⟩, ty, pos, after, g⟩ :: rest) σ w Q := by
  obtain ⟨i, hi1, _, hi2, _⟩ := hi.parts
  subst hts
  have key : (Builtin.copy_ #[dT, sT] ty #[.slice D dl dc, .slice A m sc]).run P w = .ok (goInt news.length) (w.setRow b (c.toList.take off ++ news ++ c.toList.drop (off + news.length)).toArray) := by
    rcases hD with rfl | rfl
    · have hz : Nat.min m dl = 0 := by simpa using hl.symm
      have hself : w.setRow b (c.toList.take off ++ ([] : List Value) ++ c.toList.drop (off + ([] : List Value).length)).toArray = w := by
        simp only [List.append_nil, List.length_nil, Nat.add_zero, List.take_append_drop, Array.toArray_toList]
        exact setRow_self w b c e' (0, 0) hS.first
      rw [hself]
      cases D <;> cases A <;> simp [Builtin.copy_, run_underlying hu.h, Builtin.lenOf, Builtin.firstCells, sizeOf, typeInfo, hi1, hz, storeCells, loadCells, loadCellsFrom]
    · cases A with
      | none =>
        have hn : news = [] := by
          cases news with
          | nil => rfl
          | cons v r => obtain ⟨a, ha, _⟩ := hr 0 v (by simp); cases ha
        subst hn
        have hz : Nat.min m dl = 0 := by simpa using hl.symm
        have hself : w.setRow b (c.toList.take off ++ ([] : List Value) ++ c.toList.drop (off + ([] : List Value).length)).toArray = w := by
          simp only [List.append_nil, List.length_nil, Nat.add_zero, List.take_append_drop, Array.toArray_toList]
          exact setRow_self w b c e' (0, 0) hS.first
        rw [hself]
        simp [Builtin.copy_, run_underlying hu.h, Builtin.lenOf, Builtin.firstCells, sizeOf, typeInfo, hi1, hz, storeCells]
      | some a => exact run_copy_row P w dT sT ty e b off dl dc a m sc c e' news hu.h (by simp [hi1, hi2]) hS.first hl (fun j v hv => hr.cell hv) hfit h1
  refine O_value hg hd (fun a ha => ?_) (h _ hS.setRow)
  have : args.map a.eval = #[.slice D dl dc, .slice A m sc] := by apply Array.ext'; rw [Array.toList_map, ha.evals hx]
  simp only [execOp, resolve, invoke, builtin, Sem.run_bind, Sem.run_pure, Result.andThen_ok, this, key]
  rfl

/-- The library's MakeNoZero: a new block of whatever bytes. -/
class NoZero (P : Program) (f : FuncId) (t : outParam TypeId) : Prop where
  h : ∃ fn ps, P.funcs[f]? = some fn ∧ (fn.name == "runtime.NumGoroutine") = false ∧ fn.body.isNone = true ∧ Extern.findNext fn = none ∧ Extern.find fn = some (Extern.BytealgMakeNoZero.makeNoZero ps #[t])

theorem O_makeNoZero {f : FuncId} {t e : TypeId} {ts : Array TypeId} {args : Array Operand} {w0 : World} {F : List Nat} {Gs : List (List Chunk)} {i : Nat} [hf : NoZero P f t] [hu : Und P t (.slice e)] (hS : St w0 F Gs w)
    (hg : guardIs ops σ g = some true) (hd : dstOk n dst = true) (hx : opvs σ args.toList = some [.int .i64 i]) (hi : i ≤ maxLen) (hi' : i ≤ 281474976710656)
    (h : ∀ b cs w', i ≤ cs.size → cs.size ≤ maxLen → St w0 F ([(b, .cells cs e (0, 0))] :: Gs) w' → O P n ops rest (upd σ dst (.slice (some ⟨b, 0, none⟩) i cs.size)) w' Q) : O P n ops (⟨dst, .call ⟨.value (.func f), args, ts⟩, ty, pos, after, g⟩ :: rest) σ w Q := by
  obtain ⟨fn, ps, h1, h2, h3, h4, h5⟩ := hf.h
  obtain ⟨cs, hrun, hc1, hc2⟩ := Lib.run_makeNoZero (P := P) w ps t e hu.h i hi'
  refine O_value hg hd (fun a ha => ?_) (h w.heap.size cs _ hc1 (hc2 hi) (hS.drew.drew.alloc _))
  have : args.map a.eval = #[.int .i64 i] := by apply Array.ext'; rw [Array.toList_map, ha.evals hx]
  simp only [execOp, resolve, this, Act.eval, Deferred.ofValue, invoke, callFunc, h1, h2, h3, h4, h5, Sem.run_bind, Sem.run_pure, Result.andThen_ok, run_program, run_mark, Array.empty_append, Array.append_empty, if_false, if_true, Bool.false_eq_true, hrun]

end
end Go.Proofs.YtaglgnjamihdnaaDoor.R
