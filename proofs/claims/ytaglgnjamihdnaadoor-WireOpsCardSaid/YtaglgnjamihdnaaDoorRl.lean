/- What came in, as the walks take it: out of what a law's row says of its arguments. -/
import Derived.Test.YtaglgnjamihdnaaDoorPa
import Derived.ProofKit
import Derived.OpenShut
import Derived.Deep.Matrix
import Derived.SizedLaws
namespace Go.Proofs.YtaglgnjamihdnaaDoor.R
open Go Go.RowKit Go.ChangeShapes

section
variable {H : Type} {enc : TypeId × Value → H} {P : Program} {W : World} {t e q : TypeId} {fuel len cap : Nat} {a : Option Addr} {x : DataW H × List MemPlace}

theorem arg_ints {k : IntKind} (ht : P.underlying t = some (.slice e)) (he : P.underlying e = some (.int k)) (hc : P.cellsOf e = 1)
    (h : DataW.trod enc P W 0 (fun _ => true) true fuel t (Value.slice a len cap).cells.toList = some x) :
    ∃ ns : List Int, ns.length = len ∧ len ≤ cap ∧ cap ≤ maxLen ∧ Rd W a (ns.map (Value.int k)) ∧ ∀ n ∈ ns, (Lit.int k n).wf = true := by
  rcases open_ints ht he hc h with ⟨hcs, _⟩ | ⟨y, l, c, zs, hcs, _, hl, hm, hz, _, hcell, hwz⟩
  · simp [Value.cells] at hcs
    obtain ⟨rfl, rfl, rfl⟩ := hcs
    exact ⟨[], rfl, Nat.le_refl _, Nat.zero_le _, Rd.nil _ _, by simp⟩
  · simp [Value.cells] at hcs
    obtain ⟨rfl, rfl, rfl⟩ := hcs
    simp only [if_true] at hz
    refine ⟨zs.take len, by rw [List.length_take]; omega, hl, hm, fun i v hv => ?_, fun n hn => hwz n (List.mem_of_mem_take hn)⟩
    rw [List.map_take, List.getElem?_take] at hv
    split at hv
    · rename_i hi
      refine ⟨y, rfl, ?_⟩
      have hi' : i < zs.length := by omega
      rw [hcell i hi']
      rw [List.getElem?_map, List.getElem?_eq_getElem hi'] at hv
      rw [List.getD_eq_getElem?_getD, List.getElem?_eq_getElem hi']
      simpa using hv
    · cases hv

/-- Numbers of bytes as bytes. -/
theorem bytes_of_nums (ns : List Int) (h : ∀ n ∈ ns, (Lit.int .u8 n).wf = true) : ∃ bs : List UInt8, bs.length = ns.length ∧ ns.map (Value.int .u8) = bvs bs := by
  induction ns with
  | nil => exact ⟨[], rfl, rfl⟩
  | cons n r ih =>
    obtain ⟨bs, h1, h2⟩ := ih (fun m hm => h m (by simp [hm]))
    have hn := h n (by simp)
    have hr : 0 ≤ n ∧ n < 256 := by
      simp [Lit.wf, IntKind.min, IntKind.max, IntKind.bits, IntKind.signed] at hn
      omega
    refine ⟨UInt8.ofNat n.toNat :: bs, by simp [h1], ?_⟩
    rw [List.map_cons, h2]
    show Value.int .u8 n :: bvs bs = bv (UInt8.ofNat n.toNat) :: bvs bs
    congr 1
    unfold bv
    rw [UInt8.toNat_ofNat']
    congr 1
    omega

theorem byte_of_wf {n : Int} (h : (Lit.int .u8 n).wf = true) : ∃ y : UInt8, n = (y.toNat : Int) := by
  have hr : 0 ≤ n ∧ n < 256 := by
    simp [Lit.wf, IntKind.min, IntKind.max, IntKind.bits, IntKind.signed] at h
    omega
  refine ⟨UInt8.ofNat n.toNat, ?_⟩
  rw [UInt8.toNat_ofNat']
  omega

theorem arg_bytes (ht : P.underlying t = some (.slice e)) (he : P.underlying e = some (.int .u8)) (hc : P.cellsOf e = 1)
    (h : DataW.trod enc P W 0 (fun _ => true) true fuel t (Value.slice a len cap).cells.toList = some x) :
    ∃ bs : List UInt8, bs.length = len ∧ len ≤ cap ∧ cap ≤ maxLen ∧ Rd W a (bvs bs) := by
  obtain ⟨ns, h1, h2, h3, h4, h5⟩ := arg_ints ht he hc h
  obtain ⟨bs, h6, h7⟩ := bytes_of_nums ns h5
  exact ⟨bs, by omega, h2, h3, h7 ▸ h4⟩

theorem arg_rows (ht : P.underlying t = some (.slice e)) (he : P.underlying e = some (.slice q)) (hq : P.underlying q = some (.int .u8)) (ce : P.cellsOf e = 1) (cq : P.cellsOf q = 1)
    (h : DataW.trod enc P W 0 (fun _ => true) true fuel t (Value.slice a len cap).cells.toList = some x) :
    ∃ rows : List (List UInt8), rows.length = len ∧ len ≤ cap ∧ RdB W a rows [] := by
  rcases Go.Deep.open_int_rows ht he hq ce cq h with ⟨hcs, _⟩ | ⟨y, l, c, A, L, C, Z, hcs, _, hl, hm, _, hall⟩
  · simp [Value.cells] at hcs
    obtain ⟨rfl, rfl, rfl⟩ := hcs
    exact ⟨[], rfl, Nat.le_refl _, RdB.nil _ _ _⟩
  · simp [Value.cells] at hcs
    obtain ⟨rfl, rfl, rfl⟩ := hcs
    have each : ∀ r, r < len → ∃ bs : List UInt8, bs.length = L r ∧ Rd W (A r) (bvs bs) := by
      intro r hr
      obtain ⟨_, h1, _, h2, h3, h4, h5⟩ := hall r (by omega)
      obtain ⟨bs, h6, h7⟩ := bytes_of_nums ((Z r).take (L r)) (fun n hn => h3 n (List.mem_of_mem_take hn))
      refine ⟨bs, by rw [h6, List.length_take]; omega, fun i v hv => ?_⟩
      rw [← h7, List.map_take, List.getElem?_take] at hv
      split at hv
      · rename_i hi
        cases hA : A r with
        | none => have := h4 hA; omega
        | some a' =>
          refine ⟨a', rfl, ?_⟩
          rw [(h5 a' hA).2 i (by omega)]
          rw [List.getElem?_map, List.getElem?_eq_getElem (by omega)] at hv
          rw [List.getD_eq_getElem?_getD, List.getElem?_eq_getElem (by omega)]
          simpa using hv
      · cases hv
    have mk : ∀ n, n ≤ len → ∃ rows : List (List UInt8), rows.length = n ∧ ∀ r (hr : r < rows.length), rows[r].length = L r ∧ Rd W (A r) (bvs rows[r]) := by
      intro n
      induction n with
      | zero => intro _; exact ⟨[], rfl, fun r hr => by simp at hr⟩
      | succ n ih =>
        intro hn
        obtain ⟨rows, h1, h2⟩ := ih (by omega)
        obtain ⟨bs, h3, h4⟩ := each n (by omega)
        refine ⟨rows ++ [bs], by simp [h1], fun r hr => ?_⟩
        by_cases hrn : r < rows.length
        · rw [List.getElem_append_left hrn]; exact h2 r hrn
        · have : r = n := by simp at hr; omega
          subst this
          rw [List.getElem_append_right (by omega)]
          simpa [h1] using ⟨h3, h4⟩
    obtain ⟨rows, h1, h2⟩ := mk len (Nat.le_refl _)
    refine ⟨rows, h1, hl, (List.range len).map (fun r => Value.slice (A r) (L r) (C r)), by simp [h1], fun i v hv => ?_, Apart.of_nil _ _, fun i xs hxs => ?_⟩
    · simp only [List.getElem?_map] at hv
      by_cases hi : i < len
      · rw [List.getElem?_range hi] at hv
        simp at hv
        exact ⟨y, rfl, by rw [(hall i (by omega)).1, hv]⟩
      · rw [List.getElem?_eq_none (by simpa using hi)] at hv
        simp at hv
    · rw [List.getElem?_map] at hxs
      cases hri : rows[i]? with
      | none => simp [hri] at hxs
      | some bs =>
        simp [hri] at hxs
        subst hxs
        have hi : i < rows.length := (List.getElem?_eq_some_iff.1 hri).1
        have hb : rows[i] = bs := (List.getElem?_eq_some_iff.1 hri).2
        obtain ⟨h5, h6⟩ := h2 i hi
        rw [hb] at h5 h6
        refine ⟨A i, C i, ?_, h6, Apart.of_nil _ _⟩
        simp only [List.getElem?_map]
        rw [List.getElem?_range (by omega)]
        simp [h5]

end
end Go.Proofs.YtaglgnjamihdnaaDoor.R
