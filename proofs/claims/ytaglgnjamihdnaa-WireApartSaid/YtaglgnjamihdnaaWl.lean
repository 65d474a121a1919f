/- What came in: digests, votes, messages, as the walks take them. -/
import Derived.WideShapes
import Derived.Test.YtaglgnjamihdnaaWe
import Derived.Test.YtaglgnjamihdnaaRl
namespace Go.Proofs.Ytaglgnjamihdnaa.R
open Go Go.RowKit Go.Proofs
set_option linter.unusedVariables false
set_option linter.unusedSimpArgs false
set_option maxRecDepth 20000

section
open Go.WideShapes Go.ChangeShapes
variable {H : Type} {enc : TypeId × Value → H} {W : World} {fuel : Nat} {cs : List Value} {x : DataW H × List MemPlace}
theorem okWide_array {Q : Program} {n : Nat} {t e : TypeId} {r : Reach} {b0 : Nat} {v : Value} (ht : Q.underlying t = some (.array n e)) (h : Value.okWide Q W r b0 t v) : ∃ xs : Array Value, v = .agg xs ∧ xs.size = Q.cellsOf t := by
  simp only [Value.okWide, ht] at h
  obtain ⟨cs, h1, h2, _⟩ := h
  exact ⟨cs, h1, h2⟩
theorem list_bytes : ∀ cs : List Value, (∀ i (hi : i < cs.length), ∃ n, cs[i] = .int .u8 n ∧ (Lit.int .u8 n).wf = true) → ∃ g : List UInt8, g.length = cs.length ∧ cs = bvs g
  | [], _ => ⟨[], rfl, rfl⟩
  | c :: r, h => by
    obtain ⟨g, h1, h2⟩ := list_bytes r (fun i hi => h (i + 1) (by simpa using hi))
    obtain ⟨n, h3, h4⟩ := h 0 (by simp)
    obtain ⟨y, hy⟩ := byte_of_wf h4
    have h5 : c = .int .u8 n := by simpa using h3
    refine ⟨y :: g, by simp [h1], ?_⟩
    rw [h5, hy, h2]
    simp [bvs, bv]
theorem open_hash (h : DataW.trod enc Try.prog W 0 (fun _ => true) true fuel 25 cs = some x) : ∃ g : List UInt8, g.length = 32 ∧ cs = bvs g := by
  obtain ⟨xs, m, _, _, hl, hx, hi⟩ := DataW.trod_array Try.underlying25 h
  have hl : cs.length = 32 := hl.trans (by kernel_rfl)
  have hx : xs.length = 32 := hx
  have h1 : Try.prog.cellsOf 5 = 1 := by kernel_rfl
  obtain ⟨g, h2, h3⟩ := list_bytes cs (fun i hlt => by
    have h4 := hi i (by omega)
    rw [List.getElem?_eq_getElem (by omega)] at h4
    obtain ⟨n, h5, _, h6⟩ := DataW.trod_int Try.underlying5 h4
    rw [h1, Nat.mul_one] at h5
    refine ⟨n, ?_, h6⟩
    have h7 := congrArg (fun z => z[0]?) h5
    simp only [List.getElem?_take, List.getElem?_drop] at h7
    simpa [hlt] using h7)
  exact ⟨g, by omega, h3⟩
theorem cut_seg {cs seg : List Value} {a b : Nat} (h : (cs.drop a).take b = seg) : cs.drop a = seg ++ cs.drop (a + b) := by
  rw [← h, ← List.drop_drop, List.take_append_drop]
theorem cut_end {cs seg : List Value} {a b : Nat} (h : (cs.drop a).take b = seg) (hl : cs.length = a + b) : cs.drop a = seg := by
  rw [← h, List.take_of_length_le (by rw [List.length_drop]; omega)]
theorem open_vote (h : DataW.trod enc Try.prog W 0 (fun _ => true) true fuel 29 cs = some x) : ∃ v : Vt, v.ok ∧ cs = v.cs := by
  obtain ⟨xs, m, _, _, hl, hx, hf⟩ := DataW.trod_struct Try.underlying29 h
  have hl : cs.length = 68 := hl.trans (by kernel_rfl)
  have c1 : Try.prog.cellsOf 3 = 1 := by kernel_rfl
  have c32 : Try.prog.cellsOf 25 = 32 := by kernel_rfl
  match xs, hx with
  | [y0, y1, y2, y3, y4, y5], _ =>
    have h0 : DataW.trod enc Try.prog W 0 (fun _ => true) true m 3 ((cs.drop 0).take (Try.prog.cellsOf 3)) = some y0 := hf 0 _ rfl
    have h1 : DataW.trod enc Try.prog W 0 (fun _ => true) true m 3 ((cs.drop 1).take (Try.prog.cellsOf 3)) = some y1 := hf 1 _ rfl
    have h2 : DataW.trod enc Try.prog W 0 (fun _ => true) true m 3 ((cs.drop 2).take (Try.prog.cellsOf 3)) = some y2 := hf 2 _ rfl
    have h3 : DataW.trod enc Try.prog W 0 (fun _ => true) true m 25 ((cs.drop 3).take (Try.prog.cellsOf 25)) = some y3 := hf 3 _ rfl
    have h4 : DataW.trod enc Try.prog W 0 (fun _ => true) true m 3 ((cs.drop 35).take (Try.prog.cellsOf 3)) = some y4 := hf 4 _ rfl
    have h5 : DataW.trod enc Try.prog W 0 (fun _ => true) true m 25 ((cs.drop 36).take (Try.prog.cellsOf 25)) = some y5 := hf 5 _ rfl
    rw [c1] at h0 h1 h2 h4
    rw [c32] at h3 h5
    obtain ⟨n0, e0, _, _⟩ := DataW.trod_int Try.underlying3 h0
    obtain ⟨n1, e1, _, _⟩ := DataW.trod_int Try.underlying3 h1
    obtain ⟨n2, e2, _, _⟩ := DataW.trod_int Try.underlying3 h2
    obtain ⟨n4, e4, _, _⟩ := DataW.trod_int Try.underlying3 h4
    obtain ⟨g3, l3, e3⟩ := open_hash h3
    obtain ⟨g5, l5, e5⟩ := open_hash h5
    refine ⟨⟨n0, n1, n2, g3, n4, g5⟩, ⟨l3, l5⟩, ?_⟩
    have k0 := cut_seg e0
    rw [cut_seg e1, cut_seg e2, cut_seg e3, cut_seg e4, cut_end e5 hl, List.drop_zero] at k0
    rw [k0]
    rfl
theorem cells_at {base : Nat} {a : Addr} {n : Nat} {cs : List Value} (h : W.cells? base a n = some cs) : ∀ j v, cs[j]? = some v → W.cell? (a.add j) = some v := by
  unfold World.cells? at h
  split at h
  · intro j v hj
    have hlen := mapM_some_length h
    have hj' : j < cs.length := (List.getElem?_eq_some_iff.1 hj).1
    have hj2 : j < n := by simpa [hlen] using hj'
    have := mapM_some_get h j j (by simp [hj2])
    rw [hj] at this
    exact this
  · cases h
theorem open_votes (h : DataW.trod enc Try.prog W 0 (fun _ => true) true fuel 23 cs = some x) : ∃ (B : Option Addr) (l : List Vt) (d : Nat), cs = [.slice B l.length d] ∧ (∀ v ∈ l, v.ok) ∧ Rd W B (l.flatMap Vt.cs) := by
  rcases DataW.trod_slice Try.underlying23 h with ⟨rfl, _⟩ | ⟨a, len, cap, elems, rest, n, _, rfl, _, _, hl, _, hlen, hel, _⟩
  · exact ⟨none, [], 0, rfl, by simp, Rd.nil _ _⟩
  · have hc : Try.prog.cellsOf 29 = 68 := by kernel_rfl
    rw [hc] at hel
    have each : ∀ i, i < len → ∃ v : Vt, v.ok ∧ ∀ j u, v.cs[j]? = some u → W.cell? ((a.add (i * 68)).add j) = some u := by
      intro i hi
      have h1 := hel i hi
      rw [List.getElem?_eq_getElem (by omega), Option.bind_eq_some_iff] at h1
      obtain ⟨c, h2, h3⟩ := h1
      obtain ⟨v, h4, rfl⟩ := open_vote h3
      exact ⟨v, h4, cells_at h2⟩
    have mk : ∀ n, n ≤ len → ∃ l : List Vt, l.length = n ∧ (∀ v ∈ l, v.ok) ∧ Rd W (some a) (l.flatMap Vt.cs) := by
      intro n
      induction n with
      | zero => intro _; exact ⟨[], rfl, by simp, Rd.nil _ _⟩
      | succ n ih =>
        intro hn
        obtain ⟨l, h1, h2, h3⟩ := ih (by omega)
        obtain ⟨v, h4, h5⟩ := each n (by omega)
        have hfl : ∀ l : List Vt, (∀ v ∈ l, v.ok) → (l.flatMap Vt.cs).length = l.length * 68 := by
          intro l
          induction l with
          | nil => intro _; rfl
          | cons y r ih =>
            intro h
            rw [List.flatMap_cons, List.length_append, ih (fun v hv => h v (by simp [hv])), y.len (h y (by simp)), List.length_cons]
            omega
        refine ⟨l ++ [v], by simp [h1], fun y hy => ?_, fun i u hu => ⟨a, rfl, ?_⟩⟩
        · rcases List.mem_append.1 hy with hy | hy
          · exact h2 y hy
          · obtain rfl := List.mem_singleton.1 hy
            exact h4
        · rw [List.flatMap_append, List.flatMap_cons, List.flatMap_nil, List.append_nil] at hu
          by_cases hi : i < (l.flatMap Vt.cs).length
          · rw [List.getElem?_append_left hi] at hu
            obtain ⟨a', ha', hc'⟩ := h3 i u hu
            cases ha'
            exact hc'
          · rw [List.getElem?_append_right (by omega), hfl l h2, h1] at hu
            rw [hfl l h2, h1] at hi
            have h6 := h5 _ _ hu
            rw [Addr.add_add, show n * 68 + (i - n * 68) = i by omega] at h6
            exact h6
    obtain ⟨l, h1, h2, h3⟩ := mk len (Nat.le_refl _)
    exact ⟨some a, l, cap, by rw [h1], h2, h3⟩
theorem open_msg (h : DataW.trod enc Try.prog W 0 (fun _ => true) true fuel 27 cs = some x) : ∃ m : Mg, m.ok W ∧ cs = m.cs := by
  obtain ⟨xs, m, _, _, hl, hx, hf⟩ := DataW.trod_struct Try.underlying27 h
  have hl : cs.length = 39 := hl.trans (by kernel_rfl)
  have c1 : Try.prog.cellsOf 3 = 1 := by kernel_rfl
  have cs1 : Try.prog.cellsOf 22 = 1 := by kernel_rfl
  have cv1 : Try.prog.cellsOf 23 = 1 := by kernel_rfl
  have c32 : Try.prog.cellsOf 25 = 32 := by kernel_rfl
  match xs, hx with
  | [y0, y1, y2, y3, y4, y5, y6, y7], _ =>
    have h0 : DataW.trod enc Try.prog W 0 (fun _ => true) true m 3 ((cs.drop 0).take (Try.prog.cellsOf 3)) = some y0 := hf 0 _ rfl
    have h1 : DataW.trod enc Try.prog W 0 (fun _ => true) true m 3 ((cs.drop 1).take (Try.prog.cellsOf 3)) = some y1 := hf 1 _ rfl
    have h2 : DataW.trod enc Try.prog W 0 (fun _ => true) true m 3 ((cs.drop 2).take (Try.prog.cellsOf 3)) = some y2 := hf 2 _ rfl
    have h3 : DataW.trod enc Try.prog W 0 (fun _ => true) true m 3 ((cs.drop 3).take (Try.prog.cellsOf 3)) = some y3 := hf 3 _ rfl
    have h4 : DataW.trod enc Try.prog W 0 (fun _ => true) true m 3 ((cs.drop 4).take (Try.prog.cellsOf 3)) = some y4 := hf 4 _ rfl
    have h5 : DataW.trod enc Try.prog W 0 (fun _ => true) true m 22 ((cs.drop 5).take (Try.prog.cellsOf 22)) = some y5 := hf 5 _ rfl
    have h6 : DataW.trod enc Try.prog W 0 (fun _ => true) true m 23 ((cs.drop 6).take (Try.prog.cellsOf 23)) = some y6 := hf 6 _ rfl
    have h7 : DataW.trod enc Try.prog W 0 (fun _ => true) true m 25 ((cs.drop 7).take (Try.prog.cellsOf 25)) = some y7 := hf 7 _ rfl
    rw [c1] at h0 h1 h2 h3 h4
    rw [cs1] at h5
    rw [cv1] at h6
    rw [c32] at h7
    obtain ⟨n0, e0, _, _⟩ := DataW.trod_int Try.underlying3 h0
    obtain ⟨n1, e1, _, _⟩ := DataW.trod_int Try.underlying3 h1
    obtain ⟨n2, e2, _, _⟩ := DataW.trod_int Try.underlying3 h2
    obtain ⟨n3, e3, _, _⟩ := DataW.trod_int Try.underlying3 h3
    obtain ⟨n4, e4, _, _⟩ := DataW.trod_int Try.underlying3 h4
    obtain ⟨B, l, d, e6, hvo, hvr⟩ := open_votes h6
    obtain ⟨g7, l7, e7⟩ := open_hash h7
    obtain ⟨a, len, cap, e5⟩ : ∃ a len cap, (cs.drop 5).take 1 = [.slice a len cap] := by
      rcases open_ints Try.underlying22 Try.underlying5 (by kernel_rfl) h5 with ⟨hcs, _⟩ | ⟨y, l, c, zs, hcs, _⟩
      · exact ⟨_, _, _, hcs⟩
      · exact ⟨_, _, _, hcs⟩
    rw [e5] at h5
    obtain ⟨bs, hb1, _, _, hb4⟩ := arg_bytes Try.underlying22 Try.underlying5 (by kernel_rfl) (show DataW.trod enc Try.prog W 0 (fun _ => true) true m 22 (Value.slice a len cap).cells.toList = some y5 from h5)
    refine ⟨⟨n0, n1, n2, n3, n4, a, bs, cap, B, l, d, g7⟩, ⟨hb4, hvr, hvo, l7⟩, ?_⟩
    have k0 := cut_seg e0
    rw [cut_seg e1, cut_seg e2, cut_seg e3, cut_seg e4, cut_seg e5, cut_seg e6, cut_end e7 hl, List.drop_zero] at k0
    rw [k0, ← hb1]
    rfl
end

end Go.Proofs.Ytaglgnjamihdnaa.R
