/- Rules for structs, and for bytes as a string. -/
import Derived.Test.YtaglgnjamihdnaaDoorRe
import Derived.Test.YtaglgnjamihdnaaDoorPa
import Derived.Laws.StructEq
import Derived.Laws.BytesArg
namespace Go.Proofs.YtaglgnjamihdnaaDoor.R
open Go Go.RowKit

section
variable {P : Program} {n : Nat} {σ : Env} {w : World} {Q : Post} {ops : Array Oper} {rest : List Oper}
  {dst : Option Nat} {ty : TypeId} {pos : String} {after : Array Edge} {g : Option (Nat × Bool)}

theorem O_neq_bool {t t' : TypeId} {x y : Operand} {a b : Bool} [hu : Und P t .bool] (hg : guardIs ops σ g = some true) (hd : dstOk n dst = true)
    (hx : opv σ x = some (.bool a)) (hy : opv σ y = some (.bool b))
    (h : O P n ops rest (upd σ dst (.bool (a != b))) w Q) : O P n ops (⟨dst, .binOp .neq t x y t', ty, pos, after, g⟩ :: rest) σ w Q :=
  O_value hg hd (fun ac ha => by
    have h1 : (do eqGuard .neq t x y (.bool a) (.bool b); binOp .neq t (.bool a) (.bool b)) = (do pure (.bool !(← Op.equal t (.bool a) (.bool b))) : Sem Value) := rfl
    have h2 : (Op.equal t (.bool a) (.bool b)).run P w = .ok (a == b) w := Go.Proofs.YtaglgnjamihdnaaDoor.R.run_equalIn_bool hu.h a b w 9999
    simp only [execOp, ha.eval hx, ha.eval hy, h1, Sem.run_bind, h2, Result.andThen_ok, Sem.run_pure]
    rfl) h

theorem O_eql_str {t t' : TypeId} {x y : Operand} {a b : ByteArray} (hg : guardIs ops σ g = some true) (hd : dstOk n dst = true)
    (hx : opv σ x = some (.string a)) (hy : opv σ y = some (.string b))
    (h : O P n ops rest (upd σ dst (.bool (a == b))) w Q) : O P n ops (⟨dst, .binOp .eql t x y t', ty, pos, after, g⟩ :: rest) σ w Q :=
  O_value hg hd (fun ac ha => by
    simp only [execOp, ha.eval hx, ha.eval hy, Sem.run_bind, eqGuard_at_string, binOp_string_eql, Result.andThen_ok, Sem.run_pure, ← beq_toListBytes]) h

/-- A function that lies in a slot. -/
theorem O_callv {f : FuncId} {x : Operand} {ts : Array TypeId} {args : Array Operand} {vs : List Value} {R : Value → World → Prop} [hf : Entry P f] (hg : guardIs ops σ g = some true) (hd : dstOk n dst = true)
    (hx0 : opv σ x = some (.func (.func f) #[] #[])) (hx : opvs σ args.toList = some vs) (hc : Calls P f vs.toArray w (Ret R))
    (h : ∀ v w', R v w' → O P n ops rest (upd σ dst v) w' Q) : O P n ops (⟨dst, .call ⟨.value x, args, ts⟩, ty, pos, after, g⟩ :: rest) σ w Q := by
  obtain ⟨fn, h1, h2, h3⟩ := hf.h
  refine O_enter (f := f) (vs := vs.toArray) (w' := w) hg hd (fun a ha => ?_) hc (fun e w' ⟨v, he, hr⟩ => ⟨v, he, h v w' hr⟩)
  have : args.map a.eval = vs.toArray := by apply Array.ext'; rw [Array.toList_map, ha.evals hx]
  have h3' : fn.body.isNone = false := h3
  simp only [execOp, resolve, this, ha.eval hx0, Deferred.ofValue, invoke, callFunc, h1, h2, h3', Sem.run_bind, Sem.run_pure, Result.andThen_ok, run_program, Array.empty_append, Array.append_empty, if_false, Bool.false_eq_true]

/-- Two structs or arrays, by what their comparison says. -/
theorem O_eql_agg {t t' : TypeId} {x y : Operand} {xs ys : Array Value} {b : Bool} (hg : guardIs ops σ g = some true) (hd : dstOk n dst = true)
    (hx : opv σ x = some (.agg xs)) (hy : opv σ y = some (.agg ys)) (hm : P.eqGuardType P.depth t = false) (hrun : ∀ w, (Op.equalIn 10000 t (.agg xs) (.agg ys)).run P w = .ok b w)
    (h : O P n ops rest (upd σ dst (.bool b)) w Q) : O P n ops (⟨dst, .binOp .eql t x y t', ty, pos, after, g⟩ :: rest) σ w Q :=
  O_value hg hd (fun ac ha => by
    simp only [execOp, ha.eval hx, ha.eval hy, Sem.run_bind, run_eqGuard_agg w .eql t x y xs ys hm, Result.andThen_ok, run_eql_struct, hrun, Sem.run_pure]) h
theorem O_neq_agg {t t' : TypeId} {x y : Operand} {xs ys : Array Value} {b : Bool} (hg : guardIs ops σ g = some true) (hd : dstOk n dst = true)
    (hx : opv σ x = some (.agg xs)) (hy : opv σ y = some (.agg ys)) (hm : P.eqGuardType P.depth t = false) (hrun : ∀ w, (Op.equalIn 10000 t (.agg xs) (.agg ys)).run P w = .ok b w)
    (h : O P n ops rest (upd σ dst (.bool (!b))) w Q) : O P n ops (⟨dst, .binOp .neq t x y t', ty, pos, after, g⟩ :: rest) σ w Q :=
  O_value hg hd (fun ac ha => by
    simp only [execOp, ha.eval hx, ha.eval hy, Sem.run_bind, run_eqGuard_agg w .neq t x y xs ys hm, Result.andThen_ok, run_neq_struct, hrun, Sem.run_pure]) h

/-- Cells written one behind the other. -/
def setCells (c : Array Value) (off : Nat) : List Value → Array Value
  | [] => c
  | v :: r => setCells (c.setIfInBounds off v) (off + 1) r
theorem setCells_size : ∀ (vs : List Value) (c : Array Value) (off : Nat), (setCells c off vs).size = c.size
  | [], _, _ => rfl
  | v :: r, c, off => by rw [setCells, setCells_size r]; simp

theorem setCells_get : ∀ (vs : List Value) (c : Array Value) (off : Nat), off + vs.length ≤ c.size → ∀ i, (setCells c off vs)[i]? = if off ≤ i ∧ i < off + vs.length then vs[i - off]? else c[i]?
  | [], c, off, _, i => by rw [if_neg (by simp)]; rfl
  | v :: r, c, off, h, i => by
    simp only [List.length_cons] at h ⊢
    rw [setCells, setCells_get r _ _ (by simp; omega) i]
    rcases Nat.lt_trichotomy i off with h1 | h1 | h1
    · rw [if_neg (by omega), if_neg (by omega), Array.getElem?_setIfInBounds_ne (by omega)]
    · subst h1
      rw [if_neg (by omega), if_pos (by omega), Array.getElem?_setIfInBounds_self_of_lt (by omega)]
      simp
    · by_cases h2 : i < off + 1 + r.length
      · rw [if_pos (by omega), if_pos (by omega), show i - off = (i - (off + 1)) + 1 by omega, List.getElem?_cons_succ]
      · rw [if_neg (by omega), if_neg (by omega), Array.getElem?_setIfInBounds_ne (by omega)]
theorem setCells_all (vs : List Value) (c : Array Value) (h : c.size = vs.length) : setCells c 0 vs = vs.toArray := by
  apply Array.ext_getElem?
  intro i
  rw [setCells_get vs c 0 (by omega) i]
  split
  · simp
  · rename_i hn
    rw [Array.getElem?_eq_none (by omega)]
    simp
    omega

theorem St.whole {w0 w : World} {F : List Nat} {Gs : List (List Chunk)} {b : Nat} {e : TypeId} {c : Array Value} {vs : List Value} (h : St w0 F ([(b, .cells (setCells c 0 vs) e (0, 0))] :: Gs) w) (hc : c.size = vs.length) : St w0 F ([(b, .cells vs.toArray e (0, 0))] :: Gs) w := by
  rw [setCells_all vs c hc] at h
  exact h

theorem St.storeCells {P : Program} {w0 : World} {F : List Nat} {Gs : List (List Chunk)} {b : Nat} {e : TypeId} {off : Nat} : ∀ (vs : List Value) (i : Nat) (c : Array Value) (w : World),
    St w0 F ([(b, .cells c e (0, 0))] :: Gs) w → off + i + vs.length ≤ c.size → (∀ v ∈ vs, v.oneCell' = true) →
    ∃ w', (Go.storeCells ⟨b, off, none⟩ vs i).run P w = .ok () w' ∧ St w0 F ([(b, .cells (setCells c (off + i) vs) e (0, 0))] :: Gs) w'
  | [], i, c, w, hS, _, _ => ⟨w, rfl, hS⟩
  | v :: r, i, c, w, hS, hl, hv => by
    simp only [List.length_cons] at hl
    have hfz : w.frozen? ⟨b, off + i, none⟩ = false := by simp [World.frozen?, hS.first]
    have hcell : w.cell? ⟨b, off + i, none⟩ = some (c[off + i]'(by omega)) := hS.cell (by simp)
    have hst := run_store P w ⟨b, off + i, none⟩ v .plain (hv v (by simp))
    rw [hcell] at hst
    simp only [hfz] at hst
    obtain ⟨w', h1, h2⟩ := St.storeCells (off := off) r (i + 1) (c.setIfInBounds (off + i) v) _ (hS.setCell (off + i) v) (by simp; omega) (fun x hx => hv x (by simp [hx]))
    refine ⟨w', ?_, ?_⟩
    · simp only [Go.storeCells, Sem.run_bind, add_lit]
      rw [show (Go.store ⟨b, off + i, none⟩ v).run P w = .ok () (w.setCell ⟨b, off + i, none⟩ v) from by simpa using hst]
      exact h1
    · exact h2

/-- A struct or an array is written into the first group's block. -/
theorem O_storeAgg {t : TypeId} {x y : Operand} {z : Value} {size bytes : Nat} {w0 : World} {F : List Nat} {Gs : List (List Chunk)} {b off : Nat} {c : Array Value} {e : TypeId} {vs : Array Value} [hi : Inf P t z size bytes]
    (hS : St w0 F ([(b, .cells c e (0, 0))] :: Gs) w) (hg : guardIs ops σ g = some true)
    (hx : opv σ x = some (.pointer (some ⟨b, off, none⟩))) (hy : opv σ y = some (.agg vs)) (hv : vs.toList.all (·.oneCell') = true) (hl : vs.size = size) (hc : off + size ≤ c.size)
    (h : ∀ w', St w0 F ([(b, .cells (setCells c off vs.toList) e (0, 0))] :: Gs) w' → O P n ops rest σ w' Q) : O P n ops (⟨none, .store t x y, ty, pos, after, g⟩ :: rest) σ w Q := by
  obtain ⟨w', h1, h2⟩ := St.storeCells (P := P) (off := off) vs.toList 0 c w hS (by simp; omega) (fun v hv' => List.all_eq_true.1 hv v hv')
  refine O_none (w' := w') hg rfl (fun a ha => ?_) (h w' h2)
  obtain ⟨i, hi1, _, hi2, _⟩ := hi.parts
  have hcs : (Value.agg vs).cells = vs := rfl
  simp only [execOp, ha.eval hx, ha.eval hy, Instr.storeAt, Instr.sureAddr, storeVar, hcs, sizeOf, typeInfo, Sem.run_bind, Sem.run_pure, Result.andThen_ok, run_program, hi1, hi2]
  simp [hl, h1]

/-- Bytes as a string. -/
def strOf (bs : List UInt8) : ByteArray := ⟨bs.toArray⟩
theorem strOf_eq (x y : List UInt8) : (strOf x == strOf y) = decide (x = y) := by
  rw [beq_toListBytes, ByteArray.toList_eq, ByteArray.toList_eq]
  show (x == y) = _
  rw [Bool.eq_iff_iff]
  simp
theorem E_str {s t e : TypeId} {x : Operand} {A : Option Addr} {c : Nat} {bs : List UInt8} [hs : Und P s (.slice e)] [he : Und P e (.int .u8)] [ht : Und P t .string]
    (hx : opv σ x = some (.slice A bs.length c)) (hr : Rd w A (bvs bs)) :
    ∀ a, Ev σ n a → (execOp a.eval ⟨dst, .convert s t x, ty, pos, after, g⟩).run P w = .ok (.value (.string (strOf bs))) w :=
  fun ac ha => by
    cases A with
    | none =>
      have : bs = [] := by
        cases bs with
        | nil => rfl
        | cons x r => obtain ⟨a, hA, _⟩ := hr 0 (bv x) rfl; cases hA
      subst this
      have h1 := run_convert_bytes_nil (P := P) w s e hs.h he.h 0 c t ht.h
      simp only [execOp, ha.eval hx, List.length_nil, h1, Sem.run_bind, Result.andThen_ok, Sem.run_pure]
      rfl
    | some a =>
      have hlc := run_loadCells_list (P := P) w a (bvs bs) (fun j v hv => by obtain ⟨b, hb, hc'⟩ := hr j v hv; cases hb; exact hc')
      rw [show (bvs bs).length = bs.length by simp] at hlc
      have hm : bvs bs = (bs.map fun x => (x.toNat : Int)).map (Value.int .u8) := by simp [bvs, bv]
      rw [hm] at hlc
      have h2 := run_convert_bytes_string (P := P) w s t e (some a) bs.length c hs.h he.h ht.h
      rw [run_bytesToString w _ bs.length c _ hlc, foldl_push_bytes] at h2
      have hid : (bs.map fun x => (x.toNat : Int)).map (fun n => UInt8.ofNat n.toNat) = bs := by
        rw [List.map_map]
        conv => rhs; rw [← List.map_id bs]
        apply List.map_congr_left
        intro x _
        simp
      have he0 : (⟨ByteArray.empty.data ++ bs.toArray⟩ : ByteArray) = strOf bs := by
        apply ByteArray.ext
        apply Array.toList_inj.1
        rw [Array.toList_append]
        rfl
      rw [hid, he0] at h2
      simp only [execOp, ha.eval hx, h2, Sem.run_bind, Result.andThen_ok, Sem.run_pure]
theorem O_str {s t e : TypeId} {x : Operand} {A : Option Addr} {c : Nat} {bs : List UInt8} [hs : Und P s (.slice e)] [he : Und P e (.int .u8)] [ht : Und P t .string] (hg : guardIs ops σ g = some true) (hd : dstOk n dst = true)
    (hx : opv σ x = some (.slice A bs.length c)) (hr : Rd w A (bvs bs))
    (h : O P n ops rest (upd σ dst (.string (strOf bs))) w Q) : O P n ops (⟨dst, .convert s t x, ty, pos, after, g⟩ :: rest) σ w Q :=
  O_value hg hd (E_str hx hr) h

theorem E_eql_str {P : Program} {n : Nat} {σ : Env} {w : World} {dst : Option Nat} {ty : TypeId} {pos : String} {after : Array Edge} {g : Option (Nat × Bool)} {t t' : TypeId} {x y : Operand} {a b : ByteArray} {c : Bool} (hx : opv σ x = some (.string a)) (hy : opv σ y = some (.string b)) (hc : (a == b) = c) :
    ∀ ac, Ev σ n ac → (execOp ac.eval ⟨dst, .binOp .eql t x y t', ty, pos, after, g⟩).run P w = .ok (.value (.bool c)) w := fun ac ha => by
  subst hc
  simp only [execOp, ha.eval hx, ha.eval hy, Sem.run_bind, eqGuard_at_string, binOp_string_eql, Result.andThen_ok, Sem.run_pure, ← beq_toListBytes]
theorem E_eql_agg {P : Program} {n : Nat} {σ : Env} {w : World} {dst : Option Nat} {ty : TypeId} {pos : String} {after : Array Edge} {g : Option (Nat × Bool)} {t t' : TypeId} {x y : Operand} {xs ys : Array Value} {b : Bool} (hx : opv σ x = some (.agg xs)) (hy : opv σ y = some (.agg ys)) (hm : P.eqGuardType P.depth t = false) (hrun : ∀ w, (Op.equalIn 10000 t (.agg xs) (.agg ys)).run P w = .ok b w) :
    ∀ ac, Ev σ n ac → (execOp ac.eval ⟨dst, .binOp .eql t x y t', ty, pos, after, g⟩).run P w = .ok (.value (.bool b)) w := fun ac ha => by
  simp only [execOp, ha.eval hx, ha.eval hy, Sem.run_bind, run_eqGuard_agg w .eql t x y xs ys hm, Result.andThen_ok, run_eql_struct, hrun, Sem.run_pure]
theorem E_loadAgg {P : Program} {n : Nat} {σ : Env} {w : World} {dst : Option Nat} {ty : TypeId} {pos : String} {after : Array Edge} {g : Option (Nat × Bool)} {t : TypeId} {d : TypeDesc} {x : Operand} {A : Addr} {vs : List Value} {z : Value} {size bytes : Nat} [hu : Und P t d] [hi : Inf P t z size bytes]
    (hx : opv σ x = some (.pointer (some A))) (ha : isAggD d = true) (hl : vs.length = size) (hc : Rd w (some A) vs) : ∀ a, Ev σ n a → (execOp a.eval ⟨dst, .load t x, ty, pos, after, g⟩).run P w = .ok (.value (.agg vs.toArray)) w :=
  fun a hev => by
    obtain ⟨i, hi1, _, hi2, _⟩ := hi.parts
    have hlc := run_loadCells_list (P := P) w A vs (fun j v hv => by obtain ⟨b, hb, hc'⟩ := hc j v hv; cases hb; exact hc')
    rw [hl] at hlc
    simp [execOp, hev.eval hx, Instr.loadAt, Instr.sureAddr, loadVar, run_isAgg hu.h, ha, sizeOf, typeInfo, hi1, hi2, hlc]
theorem AnyC.narrow {P : Program} {ops : Array Oper} {C C' : World → Prop} {Q : Exit → Act → World → Prop} (hC : ∀ w, C' w → C w) : ∀ (k : Nat) (l : Array Bool) (a : Act) (w : World), AnyC P ops C' Q k l a w → AnyC P ops C Q k l a w
  | 0, _, _, _, h => h
  | k + 1, _, _, _, h => ⟨h.1, fun i hi => wpOp_mono (fun a w h => ⟨hC w h.1, AnyC.narrow hC k _ a w h.2⟩) (h.2 i hi)⟩
theorem OA_class {P : Program} {n : Nat} {σ : Env} {w : World} {Q : Post} {ops : Array Oper} {C : World → Prop} {k : Nat} {l : Array Bool} (C' : World → Prop) (hC : ∀ w, C' w → C w) (h : OA P n ops C' k l σ w Q) : OA P n ops C k l σ w Q := fun a ha => AnyC.narrow hC _ _ _ _ (h a ha)
theorem OA_part {P : Program} {n : Nat} {σ : Env} {w : World} {Q : Post} {ops : Array Oper} {C : World → Prop} {k : Nat} {l : Array Bool} (d : Nat) {b : Bool} (hb : look σ d = some (.bool b)) (ht : b = true → OA P n ops C k l ((d, .bool true) :: σ) w Q) (hf : b = false → OA P n ops C k l ((d, .bool false) :: σ) w Q) : OA P n ops C k l σ w Q := fun a ha => by
  cases b with
  | true => exact ht rfl a (ha.tell hb)
  | false => exact hf rfl a (ha.tell hb)
/-- Either of two that may come up. -/
theorem OA_two {P : Program} {n : Nat} {σ : Env} {w : World} {Q : Post} {ops : Array Oper} {C : World → Prop} {k : Nat} {l : Array Bool} (i j : Nat) {oi oj : Oper} (hi : ops[i]? = some oi) (hj : ops[j]? = some oj) (hr : Region.ready .any ops l = [i, j])
    (h1 : O P n ops [oi] σ w (fun e σ w => match e with | .normal => C w ∧ OA P n ops C k (l.setIfInBounds i true) σ w Q | _ => False))
    (h2 : O P n ops [oj] σ w (fun e σ w => match e with | .normal => C w ∧ OA P n ops C k (l.setIfInBounds j true) σ w Q | _ => False)) : OA P n ops C (k + 1) l σ w Q := fun a ha => by
  refine ⟨fun h0 => absurd (hr ▸ h0) (by simp), fun m hm => ?_⟩
  rw [hr] at hm
  rcases List.mem_cons.1 hm with rfl | hm
  · exact wpOp_ofList hi (wpList_mono' _ _ (fun e a w ⟨τ, ht, hq⟩ => by cases e <;> first | exact ⟨hq.1, hq.2 _ ht⟩ | exact False.elim hq) (h1 a ha))
  · obtain rfl := List.mem_singleton.1 hm
    exact wpOp_ofList hj (wpList_mono' _ _ (fun e a w ⟨τ, ht, hq⟩ => by cases e <;> first | exact ⟨hq.1, hq.2 _ ht⟩ | exact False.elim hq) (h2 a ha))
theorem setCells_tail (p q r : List Value) (h : r.length = q.length) : setCells (p ++ q).toArray p.length r = (p ++ r).toArray := by
  apply Array.ext_getElem?
  intro i
  rw [setCells_get r _ _ (by simp; omega) i]
  simp only [List.getElem?_toArray]
  split
  · rename_i hi
    rw [List.getElem?_append_right hi.1]
  · rename_i hi
    by_cases h1 : i < p.length
    · rw [List.getElem?_append_left h1, List.getElem?_append_left h1]
    · rw [List.getElem?_eq_none (by simp; omega), List.getElem?_eq_none (by simp; omega)]
theorem E_slice_array {P : Program} {n : Nat} {σ : Env} {w : World} {dst : Option Nat} {ty : TypeId} {pos : String} {after : Array Edge} {g : Option (Nat × Bool)} {t e : TypeId} {x : Operand} {A : Addr} {m : Nat} {z : Value} {size bytes : Nat} [hu : Und P t (.array m e)] [hi : Inf P e z size bytes]
    (hx : opv σ x = some (.pointer (some A))) : ∀ a, Ev σ n a → (execOp a.eval ⟨dst, .slice t x none none none, ty, pos, after, g⟩).run P w = .ok (.value (.slice (some A) m m)) w :=
  fun a ha => by
    obtain ⟨i, hi1, _, hi2, _⟩ := hi.parts
    have hA : A.add 0 = A := by simp [Addr.add]
    simp [execOp, ha.eval hx, Instr.sliceAt, Instr.sureAddr, Instr.sliceBounds, run_underlying hu.h, sizeOf, typeInfo, hi1, hA]

/-! ### structs compared -/

theorem run_part_cell {P : Program} {w : World} {t : TypeId} {d : TypeDesc} {cs : Array Value} {off : Nat} {v : Value} (hu : P.underlying t = some d) (ha : isAggD d = false) (hc : cs[off]? = some v) : (part t cs off).run P w = .ok v w := by
  simp [part, run_isAgg hu, ha, hc]

theorem eqFields_nil {P : Program} {w : World} {d : Nat} {xs ys : Array Value} : (Op.eqFields d xs ys []).run P w = .ok true w := by simp [Op.eqFields]
theorem eqFields_step {P : Program} {w : World} {d : Nat} {xs ys : Array Value} {f : Field} {fs : List Field} {x y : Value} {b r : Bool} (hn : (f.name != "_") = true) (hx : (part f.type xs f.offset).run P w = .ok x w) (hy : (part f.type ys f.offset).run P w = .ok y w)
    (he : (Op.equalIn d f.type x y).run P w = .ok b w) (h : (Op.eqFields d xs ys fs).run P w = .ok r w) : (Op.eqFields d xs ys (f :: fs)).run P w = .ok (b && r) w := by
  have hn' : f.name ≠ "_" := by simpa using hn
  simp only [Op.eqFields, hn', ne_eq, not_false_eq_true, if_true, Sem.run_bind, hx, hy, he, Result.andThen_ok]
  cases b
  · simp
  · simpa using h
theorem eqFields_int {P : Program} {w : World} {d : Nat} {xs ys : Array Value} {f : Field} {fs : List Field} {k : IntKind} {a b : Int} {r : Bool} (hn : (f.name != "_") = true) (hu : P.underlying f.type = some (.int k)) (hx : xs[f.offset]? = some (.int k a)) (hy : ys[f.offset]? = some (.int k b))
    (h : (Op.eqFields (d + 1) xs ys fs).run P w = .ok r w) : (Op.eqFields (d + 1) xs ys (f :: fs)).run P w = .ok ((a == b) && r) w :=
  eqFields_step hn (run_part_cell hu rfl hx) (run_part_cell hu rfl hy) (run_equalIn_int w d f.type k k a b hu) h

/-! ### what nobody asks of any more -/

theorem St.bare {w0 w : World} {F : List Nat} : ∀ {Gs : List (List Chunk)}, St w0 F Gs w → St w0 F [] w
  | [], h => h
  | _ :: _, h => (St.drop h).bare
theorem St.fore {w0 w : World} {F : List Nat} {A B : List (List Chunk)} (h : St w0 F (A ++ B) w) : St w0 F A w := by
  have h1 : St w0 F (B.flatten :: A) w := h.perm (by rw [List.flatten_append, List.flatten_cons]; exact List.perm_append_comm)
  exact h1.drop
theorem St.f6 {w0 w : World} {F : List Nat} {G a b c d e f : List Chunk} {Gs : List (List Chunk)} (h : St w0 F (a :: b :: c :: d :: e :: f :: G :: Gs) w) : St w0 F (G :: a :: b :: c :: d :: e :: f :: Gs) w :=
  h.ofPerm (List.perm_middle (l₁ := [a, b, c, d, e, f]))
theorem St.sink6 {w0 w : World} {F : List Nat} {G a b c d e f : List Chunk} {Gs : List (List Chunk)} (h : St w0 F (G :: a :: b :: c :: d :: e :: f :: Gs) w) : St w0 F (a :: b :: c :: d :: e :: f :: G :: Gs) w :=
  h.ofPerm (List.perm_middle (l₁ := [a, b, c, d, e, f])).symm
theorem St.keep1 {w0 w : World} {F : List Nat} {A : List Chunk} {B : List (List Chunk)} (h : St w0 F (A :: B) w) : St w0 F [A] w := St.fore (A := [A]) h
theorem St.keep2 {w0 w : World} {F : List Nat} {A A' : List Chunk} {B : List (List Chunk)} (h : St w0 F (A :: A' :: B) w) : St w0 F [A, A'] w := St.fore (A := [A, A']) h

/-! ### results that lie in cells -/

/-- A body's end, of which the results are read then. -/
abbrev LeavesC (P : Program) (n : Nat) (fn : Func) (R : Value → World → Prop) : Post := fun e σ w => match e with
  | .normal => ∃ v, (∀ a, Ev σ n a → (results fn a.tmps).run P w = .ok v w) ∧ R v w
  | .ret => ∃ v, (∀ a, Ev σ n a → (results fn a.tmps).run P w = .ok v w) ∧ R v w
  | _ => False

theorem calls_enterC {P : Program} {f : FuncId} {fn : Func} {c : Code} {l : List Value} {w : World} {R : Value → World → Prop} {n : Nat}
    (hf : P.funcs[f]? = some fn) (hb : fn.body = some c) (hn : fn.ntmps = n) (hl : l.length ≤ n)
    (h : W P n c (envOf 0 l) w (LeavesC P n fn R)) : Calls P f l.toArray w (Ret R) := by
  refine calls_of_wp hf hb ?_
  have hev : Ev (envOf 0 l) n { tmps := l.toArray ++ Array.replicate (fn.ntmps - l.toArray.size) undef, defers := [] } := by
    refine ⟨by simp [hn]; omega, rfl, fun t v hv => ?_⟩
    obtain ⟨_, h2⟩ := envOf_look l 0 t v hv
    have hlt : t < l.length := by
      rcases Nat.lt_or_ge t l.length with h | h
      · exact h
      · simp [List.getElem?_eq_none h] at h2
    rw [Array.getElem?_append_left (by simpa using hlt)]
    simpa using h2
  refine wp_mono (h _ hev) ?_
  rintro e a w ⟨τ, ht, hq⟩
  cases e with
  | normal => obtain ⟨v, hv, hR⟩ := hq; exact ⟨ht.defers, v, hv _ ht, v, rfl, hR⟩
  | ret => obtain ⟨v, hv, hR⟩ := hq; exact ⟨ht.defers, v, hv _ ht, v, rfl, hR⟩
  | exit i => exact hq.elim
  | goto l => exact hq.elim
  | panic ch => exact hq.elim
  | outgrown => exact hq.elim

/-- A struct out of its cells, and a second result. -/
theorem res_cell_tmp {P : Program} {n : Nat} {σ : Env} {w : World} {fn : Func} {t u ty : Nat} {A : Addr} {vs : List Value} {y z : Value} {d : TypeDesc} {size bytes : Nat} [hu : Und P ty d] [hi : Inf P ty z size bytes]
    (hr : fn.results = #[.cell t ty, .tmp u]) (ht : look σ t = some (.pointer (some A))) (hy : look σ u = some y) (ha : isAggD d = true) (hl : vs.length = size) (hc : Rd w (some A) vs) :
    ∀ a, Ev σ n a → (results fn a.tmps).run P w = .ok (.tuple #[.agg vs.toArray, y]) w := fun a hev => by
  obtain ⟨i, hi1, _, hi2, _⟩ := hi.parts
  have hlc := run_loadCells_list (P := P) w A vs (fun j v hv => by obtain ⟨b, hb, hc'⟩ := hc j v hv; cases hb; exact hc')
  rw [hl] at hlc
  simp [results, hr, hev.get _ _ ht, hev.get _ _ hy, asAddr, loadVar, run_isAgg hu.h, ha, sizeOf, typeInfo, hi1, hi2, hlc]
end
end Go.Proofs.YtaglgnjamihdnaaDoor.R
