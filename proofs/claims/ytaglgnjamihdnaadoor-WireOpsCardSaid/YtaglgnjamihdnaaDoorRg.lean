/- Rules for strings: their length, a byte of them, a part of them. -/
import Derived.Test.YtaglgnjamihdnaaDoorRf
import Derived.Laws.Slices
import Derived.Laws.Strings3
namespace Go.Proofs.YtaglgnjamihdnaaDoor.R
open Go Go.RowKit

section
variable {P : Program} {n : Nat} {σ : Env} {w : World} {Q : Post} {ops : Array Oper} {rest : List Oper}
  {dst : Option Nat} {ty : TypeId} {pos : String} {after : Array Edge} {g : Option (Nat × Bool)}

theorem strOf_size (bs : List UInt8) : (strOf bs).size = bs.length := by simp [strOf, ByteArray.size]
theorem strOf_get (bs : List UInt8) (i : Nat) : (strOf bs)[i]? = bs[i]? := by
  show (if h : i < (strOf bs).size then some _ else none) = _
  by_cases h : i < bs.length
  · rw [dif_pos (by rw [strOf_size]; exact h), List.getElem?_eq_getElem h]
    rfl
  · rw [dif_neg (by rw [strOf_size]; exact h), List.getElem?_eq_none (by omega)]
theorem E_index_str {t : TypeId} {x y : Operand} {bs : List UInt8} {k : IntKind} {j : Nat} [ht : Und P t .string] (hx : opv σ x = some (.string (strOf bs))) (hy : opv σ y = some (.int k j)) (h1 : j < bs.length) :
    ∀ a, Ev σ n a → (execOp a.eval ⟨dst, .index t x y, ty, pos, after, g⟩).run P w = .ok (.value (bv bs[j])) w := fun a ha => by
  have hg : (strOf bs)[j]? = some bs[j] := by rw [strOf_get, List.getElem?_eq_getElem h1]
  simp [execOp, ha.eval hx, ha.eval hy, Instr.index, asIntOf, run_underlying ht.h, hg, bv]
theorem O_index_str {t : TypeId} {x y : Operand} {bs : List UInt8} {k : IntKind} {j : Nat} [ht : Und P t .string] (hg : guardIs ops σ g = some true) (hd : dstOk n dst = true) (hx : opv σ x = some (.string (strOf bs))) (hy : opv σ y = some (.int k j)) (h1 : j < bs.length)
    (h : O P n ops rest (upd σ dst (bv bs[j])) w Q) : O P n ops (⟨dst, .index t x y, ty, pos, after, g⟩ :: rest) σ w Q := O_value hg hd (E_index_str hx hy h1) h
theorem O_lenstr {t : TypeId} {ts : Array TypeId} {args : Array Operand} {bs : List UInt8} [ht : Und P t .string] (hg : guardIs ops σ g = some true) (hd : dstOk n dst = true) (hts : ts = #[t]) (hx : opvs σ args.toList = some [.string (strOf bs)])
    (h : O P n ops rest (upd σ dst (.int .i64 (bs.length : Nat))) w Q) : O P n ops (⟨dst, .call ⟨.builtin .len, args, ts⟩, ty, pos, after, g⟩ :: rest) σ w Q :=
  O_value hg hd (fun a ha => by
    subst hts
    have h1 : args.map a.eval = #[.string (strOf bs)] := by apply Array.ext'; rw [Array.toList_map, ha.evals hx]
    simp [execOp, resolve, invoke, builtin, h1, Builtin.len_, run_underlying ht.h, strOf_size, goInt]) h
theorem strOf_extract (bs : List UInt8) (i j : Nat) : (strOf bs).extract i j = strOf ((bs.drop i).take (j - i)) := by
  apply ByteArray.ext
  apply Array.toList_inj.1
  simp [strOf, ByteArray.data_extract, List.extract]
/-- All but the first ones. -/
theorem O_slice_str_from {t : TypeId} {x y : Operand} {bs : List UInt8} {k : IntKind} {j : Nat} [ht : Und P t .string] (hg : guardIs ops σ g = some true) (hd : dstOk n dst = true) (hx : opv σ x = some (.string (strOf bs))) (hy : opv σ y = some (.int k j)) (h1 : j ≤ bs.length)
    (h : O P n ops rest (upd σ dst (.string (strOf (bs.drop j)))) w Q) : O P n ops (⟨dst, .slice t x (some y) none none, ty, pos, after, g⟩ :: rest) σ w Q :=
  O_value hg hd (fun a ha => by
    have h2 := run_slice_string_from_if (P := P) (w := w) t (strOf bs) k (j : Int) ht.h
    simp [execOp, ha.eval hx, ha.eval hy, Instr.sliceAt, run_underlying ht.h, h2, strOf_size, h1, strOf_extract]
    rw [List.take_of_length_le (by simp)]) h
/-- The first ones. -/
theorem O_slice_str_to {t : TypeId} {x y : Operand} {bs : List UInt8} {k : IntKind} {j : Nat} [ht : Und P t .string] (hg : guardIs ops σ g = some true) (hd : dstOk n dst = true) (hx : opv σ x = some (.string (strOf bs))) (hy : opv σ y = some (.int k j)) (h1 : j ≤ bs.length)
    (h : O P n ops rest (upd σ dst (.string (strOf (bs.take j)))) w Q) : O P n ops (⟨dst, .slice t x none (some y) none, ty, pos, after, g⟩ :: rest) σ w Q :=
  O_value hg hd (fun a ha => by
    have h2 := run_slice_string_to_if (P := P) (w := w) t (strOf bs) k (j : Int) ht.h
    simp [execOp, ha.eval hx, ha.eval hy, Instr.sliceAt, run_underlying ht.h, h2, strOf_size, h1, strOf_extract]) h
/-- The address of an array's element. -/
theorem O_indexArr {t e : TypeId} {x y : Operand} {m : Nat} {b off j : Nat} {k : IntKind} {z : Value} {size bytes : Nat} [hu : Und P t (.array m e)] [hi : Inf P e z size bytes] (hg : guardIs ops σ g = some true) (hd : dstOk n dst = true)
    (hx : opv σ x = some (.pointer (some ⟨b, off, none⟩))) (hy : opv σ y = some (.int k j)) (h1 : j < m)
    (h : O P n ops rest (upd σ dst (.pointer (some ⟨b, off + j * size, none⟩))) w Q) : O P n ops (⟨dst, .indexAddr t x y, ty, pos, after, g⟩ :: rest) σ w Q :=
  O_value hg hd (fun a ha => by
    obtain ⟨i, hi1, _, hi2, _⟩ := hi.parts
    simp [execOp, ha.eval hx, ha.eval hy, Instr.indexAt, Instr.sureAddr, asIntOf, run_underlying hu.h, sizeOf, typeInfo, hi1, hi2, h1, add_lit]) h
end
end Go.Proofs.YtaglgnjamihdnaaDoor.R
