/- What came in: operations and marks, as the walks take them. -/
import Derived.WideShapes
import Derived.Test.YtaglgnjamihdnaaDoorWs
import Derived.Test.YtaglgnjamihdnaaDoorRl
namespace Go.Proofs.YtaglgnjamihdnaaDoor.R
open Go Go.RowKit Go.Proofs
set_option linter.unusedVariables false
set_option linter.unusedSimpArgs false
set_option maxRecDepth 20000

section
open Go.WideShapes Go.ChangeShapes
variable {H : Type} {enc : TypeId × Value → H} {W : World} {fuel : Nat} {cs : List Value} {x : DataW H × List MemPlace}
theorem cut_seg {cs seg : List Value} {a b : Nat} (h : (cs.drop a).take b = seg) : cs.drop a = seg ++ cs.drop (a + b) := by
  rw [← h, ← List.drop_drop, List.take_append_drop]
theorem cut_end {cs seg : List Value} {a b : Nat} (h : (cs.drop a).take b = seg) (hl : cs.length = a + b) : cs.drop a = seg := by
  rw [← h, List.take_of_length_le (by rw [List.length_drop]; omega)]
theorem strOf_data (s : ByteArray) : strOf s.data.toList = s := by
  apply ByteArray.ext
  apply Array.toList_inj.1
  simp [strOf]
theorem open_op (h : DataW.trod enc Tryd.prog W 0 (fun _ => true) true fuel 23 cs = some x) : ∃ o : Opr, o.nm.length ≤ 9223372036854775807 ∧ cs = o.cs := by
  obtain ⟨xs, m, _, _, hl, hx, hf⟩ := DataW.trod_struct Tryd.underlying23 h
  have hl : cs.length = 9 := hl.trans (by kernel_rfl)
  have c1 : Tryd.prog.cellsOf 3 = 1 := by kernel_rfl
  have c2 : Tryd.prog.cellsOf 9 = 1 := by kernel_rfl
  have c3 : Tryd.prog.cellsOf 4 = 1 := by kernel_rfl
  match xs, hx with
  | [y0, y1, y2, y3, y4, y5, y6, y7, y8], _ =>
    have h0 : DataW.trod enc Tryd.prog W 0 (fun _ => true) true m 3 ((cs.drop 0).take (Tryd.prog.cellsOf 3)) = some y0 := hf 0 _ rfl
    have h1 : DataW.trod enc Tryd.prog W 0 (fun _ => true) true m 3 ((cs.drop 1).take (Tryd.prog.cellsOf 3)) = some y1 := hf 1 _ rfl
    have h2 : DataW.trod enc Tryd.prog W 0 (fun _ => true) true m 3 ((cs.drop 2).take (Tryd.prog.cellsOf 3)) = some y2 := hf 2 _ rfl
    have h3 : DataW.trod enc Tryd.prog W 0 (fun _ => true) true m 9 ((cs.drop 3).take (Tryd.prog.cellsOf 9)) = some y3 := hf 3 _ rfl
    have h4 : DataW.trod enc Tryd.prog W 0 (fun _ => true) true m 3 ((cs.drop 4).take (Tryd.prog.cellsOf 3)) = some y4 := hf 4 _ rfl
    have h5 : DataW.trod enc Tryd.prog W 0 (fun _ => true) true m 3 ((cs.drop 5).take (Tryd.prog.cellsOf 3)) = some y5 := hf 5 _ rfl
    have h6 : DataW.trod enc Tryd.prog W 0 (fun _ => true) true m 3 ((cs.drop 6).take (Tryd.prog.cellsOf 3)) = some y6 := hf 6 _ rfl
    have h7 : DataW.trod enc Tryd.prog W 0 (fun _ => true) true m 3 ((cs.drop 7).take (Tryd.prog.cellsOf 3)) = some y7 := hf 7 _ rfl
    have h8 : DataW.trod enc Tryd.prog W 0 (fun _ => true) true m 4 ((cs.drop 8).take (Tryd.prog.cellsOf 4)) = some y8 := hf 8 _ rfl
    rw [c1] at h0 h1 h2 h4 h5 h6 h7
    rw [c2] at h3
    rw [c3] at h8
    obtain ⟨n0, e0, _, _⟩ := DataW.trod_int Tryd.underlying3 h0
    obtain ⟨n1, e1, _, _⟩ := DataW.trod_int Tryd.underlying3 h1
    obtain ⟨n2, e2, _, _⟩ := DataW.trod_int Tryd.underlying3 h2
    obtain ⟨n4, e4, _, _⟩ := DataW.trod_int Tryd.underlying3 h4
    obtain ⟨n5, e5, _, _⟩ := DataW.trod_int Tryd.underlying3 h5
    obtain ⟨n6, e6, _, _⟩ := DataW.trod_int Tryd.underlying3 h6
    obtain ⟨n7, e7, _, _⟩ := DataW.trod_int Tryd.underlying3 h7
    obtain ⟨s3, e3, _, l3⟩ := DataW.trod_string Tryd.underlying9 h3
    obtain ⟨b8, e8, _⟩ := DataW.trod_bool Tryd.underlying4 h8
    refine ⟨⟨n0, n1, n2, s3.data.toList, n4, n5, n6, n7, b8⟩, ?_, ?_⟩
    · show s3.data.toList.length ≤ _
      have : s3.data.toList.length = s3.size := Array.length_toList
      rw [this]
      have := l3
      unfold maxLen at this
      omega
    have k0 := cut_seg e0
    rw [cut_seg e1, cut_seg e2, cut_seg e3, cut_seg e4, cut_seg e5, cut_seg e6, cut_seg e7, cut_end e8 hl, List.drop_zero] at k0
    rw [k0]
    show _ = [iv n0, iv n1, iv n2, .string (strOf s3.data.toList), iv n4, iv n5, iv n6, iv n7, .bool b8]
    rw [strOf_data]
    rfl
theorem open_mark (h : DataW.trod enc Tryd.prog W 0 (fun _ => true) true fuel 35 cs = some x) : ∃ m : Mkr, cs = m.cs := by
  obtain ⟨xs, m, _, _, hl, hx, hf⟩ := DataW.trod_struct Tryd.underlying35 h
  have hl : cs.length = 4 := hl.trans (by kernel_rfl)
  have c1 : Tryd.prog.cellsOf 3 = 1 := by kernel_rfl
  match xs, hx with
  | [y0, y1, y2, y3], _ =>
    have h0 : DataW.trod enc Tryd.prog W 0 (fun _ => true) true m 3 ((cs.drop 0).take (Tryd.prog.cellsOf 3)) = some y0 := hf 0 _ rfl
    have h1 : DataW.trod enc Tryd.prog W 0 (fun _ => true) true m 3 ((cs.drop 1).take (Tryd.prog.cellsOf 3)) = some y1 := hf 1 _ rfl
    have h2 : DataW.trod enc Tryd.prog W 0 (fun _ => true) true m 3 ((cs.drop 2).take (Tryd.prog.cellsOf 3)) = some y2 := hf 2 _ rfl
    have h3 : DataW.trod enc Tryd.prog W 0 (fun _ => true) true m 3 ((cs.drop 3).take (Tryd.prog.cellsOf 3)) = some y3 := hf 3 _ rfl
    rw [c1] at h0 h1 h2 h3
    obtain ⟨n0, e0, _, _⟩ := DataW.trod_int Tryd.underlying3 h0
    obtain ⟨n1, e1, _, _⟩ := DataW.trod_int Tryd.underlying3 h1
    obtain ⟨n2, e2, _, _⟩ := DataW.trod_int Tryd.underlying3 h2
    obtain ⟨n3, e3, _, _⟩ := DataW.trod_int Tryd.underlying3 h3
    refine ⟨⟨n0, n1, n2, n3⟩, ?_⟩
    have k0 := cut_seg e0
    rw [cut_seg e1, cut_seg e2, cut_end e3 hl, List.drop_zero] at k0
    rw [k0]
    rfl
end

end Go.Proofs.YtaglgnjamihdnaaDoor.R
