/- Rules for one result that lies in cells, for strings joined and compared, and for the comparison of a struct's string field. -/
import Derived.Test.YtaglgnjamihdnaaDoorRg
import Derived.Laws.Concat
import Derived.Lib.ConvBytes
namespace Go.Proofs.YtaglgnjamihdnaaDoor.R
open Go Go.RowKit

section
/-- A struct out of its cells, the one result. -/
theorem res_cell {P : Program} {n : Nat} {σ : Env} {w : World} {fn : Func} {t ty : Nat} {A : Addr} {vs : List Value} {z : Value} {d : TypeDesc} {size bytes : Nat} [hu : Und P ty d] [hi : Inf P ty z size bytes]
    (hr : fn.results = #[.cell t ty]) (ht : look σ t = some (.pointer (some A))) (ha : isAggD d = true) (hl : vs.length = size) (hc : Rd w (some A) vs) :
    ∀ a, Ev σ n a → (results fn a.tmps).run P w = .ok (.agg vs.toArray) w := fun a hev => by
  obtain ⟨i, hi1, _, hi2, _⟩ := hi.parts
  have hlc := run_loadCells_list (P := P) w A vs (fun j v hv => by obtain ⟨b, hb, hc'⟩ := hc j v hv; cases hb; exact hc')
  rw [hl] at hlc
  simp [results, hr, hev.get _ _ ht, asAddr, loadVar, run_isAgg hu.h, ha, sizeOf, typeInfo, hi1, hi2, hlc]

variable {P : Program} {n : Nat} {σ : Env} {w : World} {Q : Post} {ops : Array Oper} {rest : List Oper}
  {dst : Option Nat} {ty : TypeId} {pos : String} {after : Array Edge} {g : Option (Nat × Bool)}

theorem E_neq_str {t t' : TypeId} {x y : Operand} {a b : ByteArray} {c : Bool} (hx : opv σ x = some (.string a)) (hy : opv σ y = some (.string b)) (hc : (a == b) = c) :
    ∀ ac, Ev σ n ac → (execOp ac.eval ⟨dst, .binOp .neq t x y t', ty, pos, after, g⟩).run P w = .ok (.value (.bool (!c))) w := fun ac ha => by
  subst hc
  simp only [execOp, ha.eval hx, ha.eval hy, Sem.run_bind, eqGuard_at_string, binOp_string_neq, Result.andThen_ok, Sem.run_pure, ← beq_toListBytes]
theorem O_neq_str {t t' : TypeId} {x y : Operand} {a b : ByteArray} {c : Bool} (hg : guardIs ops σ g = some true) (hd : dstOk n dst = true)
    (hx : opv σ x = some (.string a)) (hy : opv σ y = some (.string b)) (hc : (a == b) = c)
    (h : O P n ops rest (upd σ dst (.bool (!c))) w Q) : O P n ops (⟨dst, .binOp .neq t x y t', ty, pos, after, g⟩ :: rest) σ w Q :=
  O_value hg hd (E_neq_str hx hy hc) h

theorem E_build {t : TypeId} {parts : Array (Nat × Operand)} {vs : List Value} {c : Array Value}
    (hv : opvs σ (parts.toList.map (·.2)) = some vs) (hrun : ∀ w, (Instr.build t ((parts.toList.map (·.1)).zip vs).toArray).run P w = .ok (.agg c) w) :
    ∀ a, Ev σ n a → (execOp a.eval ⟨dst, .build t parts, ty, pos, after, g⟩).run P w = .ok (.value (.agg c)) w := fun a ha => by
  have : parts.map (fun (i, x) => (i, a.eval x)) = ((parts.toList.map (·.1)).zip vs).toArray := by
    apply Array.ext'
    rw [← ha.evals hv]
    simp only [Array.toList_map, List.map_map]
    rw [List.zip_map']
    rfl
  simp only [execOp, this, Sem.run_bind, hrun, Result.andThen_ok, Sem.run_pure]
/-- Two strings one behind the other. -/
theorem E_add_str {t t' : TypeId} {x y : Operand} {a b : List UInt8} (hx : opv σ x = some (.string (strOf a))) (hy : opv σ y = some (.string (strOf b))) (hl : a.length + b.length ≤ 9223372036854775807) :
    ∀ ac, Ev σ n ac → (execOp ac.eval ⟨dst, .binOp .add t x y t', ty, pos, after, g⟩).run P w = .ok (.value (.string (strOf (a ++ b)))) w := fun ac ha => by
  have h1 : (Op.stringOp .add (strOf a) (strOf b)).run P w = .ok (.string (strOf a ++ strOf b)) w := run_string_add_sum (P := P) w _ _ (by rw [strOf_size, strOf_size]; exact hl)
  have h2 : strOf a ++ strOf b = strOf (a ++ b) := by
    apply ByteArray.ext
    apply Array.toList_inj.1
    rw [ByteArray.data_append, Array.toList_append]
    rfl
  have h3 : eqGuard .add t x y (.string (strOf a)) (.string (strOf b)) = pure () := rfl
  simp only [execOp, ha.eval hx, ha.eval hy, h3, Sem.run_bind, Sem.run_pure, binOp_string_add, h1, h2, Result.andThen_ok]
theorem O_add_str {t t' : TypeId} {x y : Operand} {a b : List UInt8} (hg : guardIs ops σ g = some true) (hd : dstOk n dst = true) (hx : opv σ x = some (.string (strOf a))) (hy : opv σ y = some (.string (strOf b))) (hl : a.length + b.length ≤ 9223372036854775807)
    (h : O P n ops rest (upd σ dst (.string (strOf (a ++ b)))) w Q) : O P n ops (⟨dst, .binOp .add t x y t', ty, pos, after, g⟩ :: rest) σ w Q :=
  O_value hg hd (E_add_str hx hy hl) h
theorem eqFields_bool {P : Program} {w : World} {d : Nat} {xs ys : Array Value} {f : Field} {fs : List Field} {a b : Bool} {r : Bool} (hn : (f.name != "_") = true) (hu : P.underlying f.type = some .bool) (hx : xs[f.offset]? = some (.bool a)) (hy : ys[f.offset]? = some (.bool b))
    (h : (Op.eqFields (d + 1) xs ys fs).run P w = .ok r w) : (Op.eqFields (d + 1) xs ys (f :: fs)).run P w = .ok ((a == b) && r) w :=
  eqFields_step hn (run_part_cell hu rfl hx) (run_part_cell hu rfl hy) (run_equalIn_bool hu a b w d) h
theorem run_equalIn_str {P : Program} {t : TypeId} (hu : P.underlying t = some .string) (a b : ByteArray) (w : World) (d : Nat) : (Op.equalIn (d + 1) t (.string a) (.string b)).run P w = .ok (a == b) w := by
  simp only [Op.equalIn, Sem.run_bind, run_underlying hu, Result.andThen_ok]; rfl
theorem eqFields_str {P : Program} {w : World} {d : Nat} {xs ys : Array Value} {f : Field} {fs : List Field} {a b : List UInt8} {r : Bool} (hn : (f.name != "_") = true) (hu : P.underlying f.type = some .string) (hx : xs[f.offset]? = some (.string (strOf a))) (hy : ys[f.offset]? = some (.string (strOf b)))
    (h : (Op.eqFields (d + 1) xs ys fs).run P w = .ok r w) : (Op.eqFields (d + 1) xs ys (f :: fs)).run P w = .ok (decide (a = b) && r) w := by
  have he := run_equalIn_str hu (strOf a) (strOf b) w d
  rw [strOf_eq] at he
  exact eqFields_step hn (run_part_cell hu rfl hx) (run_part_cell hu rfl hy) he h
/-- The bytes of a string, as a slice of its own. -/
theorem O_bytes {s t e : TypeId} {x : Operand} {bs : List UInt8} {w0 : World} {F : List Nat} {Gs : List (List Chunk)} [hs : Und P s .string] [ht : Und P t (.slice e)] [he : Und P e (.int .u8)] (hS : St w0 F Gs w)
    (hg : guardIs ops σ g = some true) (hd : dstOk n dst = true) (hx : opv σ x = some (.string (strOf bs)))
    (h : ∀ b cs c w', (∀ i v, (bvs bs)[i]? = some v → cs[0 + i]? = some v) → St w0 F ([(b, .cells cs e (cs.size, cs.size + 1))] :: Gs) w' → O P n ops rest (upd σ dst (.slice (some ⟨b, 0, none⟩) bs.length c)) w' Q) : O P n ops (⟨dst, .convert s t x, ty, pos, after, g⟩ :: rest) σ w Q := by
  have hrun := Go.Lib.run_convert_string_bytes (P := P) w s t e (strOf bs) hs.h ht.h he.h
  rw [strOf_size] at hrun
  have hS1 := hS.drew.alloc (.cells (Go.Lib.bytesCells w e (strOf bs)) e)
  have hS2 : St w0 F ([(w.heap.size, .cells (Go.Lib.bytesCells w e (strOf bs)) e ((Go.Lib.bytesCells w e (strOf bs)).size, (Go.Lib.bytesCells w e (strOf bs)).size + 1))] :: Gs) (Go.Lib.bytesWorld w e (strOf bs)) := by
    refine St.turn hS1 rfl rfl rfl (by simp [Go.Lib.bytesWorld, World.freeze]) (Go.Lib.bytesWorld_at_new w e (strOf bs)) (fun k hk => ?_)
    have hk' : ¬ w.heap.size = k := fun h => hk (h ▸ rfl)
    show (Go.Lib.bytesWorld w e (strOf bs)).heap[k]? = _
    simp only [Go.Lib.bytesWorld, World.freeze, Nat.succ_ne_zero, if_false, Array.getElem?_modify]
    rw [if_neg hk']
  refine O_value hg hd (fun a ha => ?_) (h w.heap.size _ (grownCap w bs.length 0 e) _ (fun i v hv => ?_) hS2)
  · simp only [execOp, ha.eval hx, hrun, Sem.run_bind, Result.andThen_ok, Sem.run_pure]
  · rw [Nat.zero_add]
    have hi : i < bs.length := by
      have := (List.getElem?_eq_some_iff.1 hv).1
      simpa using this
    have h3 : (bvs bs)[i]? = some (bv bs[i]) := bvs_at (by simp [hi])
    rw [h3] at hv
    cases hv
    have h4 : i < ((strOf bs).data.map fun b => Value.int .u8 b.toNat).size := by rw [Array.size_map]; exact hi
    unfold Go.Lib.bytesCells
    rw [Array.getElem?_append_left h4, Array.getElem?_map]
    have h5 : (strOf bs).data[i]? = some bs[i] := by
      show bs.toArray[i]? = _
      simp [hi]
    rw [h5]
    rfl
end
end Go.Proofs.YtaglgnjamihdnaaDoor.R
