/- How a Writer lays rows, what the check sum is, and what the document's own functions answer. -/
import Derived.Test.YtaglgnjamihdnaaDoorOa
namespace Go.Proofs.YtaglgnjamihdnaaDoor.R
open Go Go.RowKit Go.Proofs
set_option linter.unusedVariables false
set_option linter.unusedSimpArgs false
set_option maxRecDepth 20000

theorem bytes_spec {w0 : World} {a : Nat} {v0 : Value} {R0 : List Chunk} {bs : List UInt8} {A : Option Addr} {rows : List (List UInt8)} {c : Nat}
    (hS : Own [wcell a v0, R0] w0) (hR : BRow v0 bs R0) (hr : RdB w0 A rows (idsOf [wcell a v0, R0])) (hb : bs.length + wt rows ≤ 100000000) :
    Calls Tryd.prog 20 #[.pointer (some ⟨a, 0, none⟩), .slice A rows.length c] w0 (Ret fun r w => r = .tuple #[] ∧ ∃ v R, BRow v (bs ++ encRows rows) R ∧ St w0 (idsOf [wcell a v0, R0]) [wcell a v, R] w) := by
  refine calls_enter (l := [.pointer (some ⟨a, 0, none⟩), .slice A rows.length c]) Tryd.func20 rfl Tryd.ntmps20 Tryd.results20 (Nat.le_of_ble_eq_true rfl) ?_
  refine W_seq ?_
  refine W_region ?_
  refine O_move rfl rfl rfl ?_
  refine O_len rfl rfl rfl rfl ?_
  refine O_move rfl rfl rfl ?_
  refine O_end ?_
  refine W_block ?_
  refine W_loop (ι := Nat × Value × List Chunk)
      (fun i => [(0, .pointer (some ⟨a, 0, none⟩)), (6, .slice A rows.length c), (7, .int .i64 (rows.length : Nat)), (8, .int .i64 (i.1 : Nat))])
      (fun i w => i.1 ≤ rows.length ∧ BRow i.2.1 (bs ++ encRows (rows.take i.1)) i.2.2 ∧ St w0 (idsOf [wcell a v0, R0]) [wcell a i.2.1, i.2.2] w)
      (fun i => rows.length - i.1) (0, v0, R0) ⟨rfl, rfl, rfl, rfl, trivial⟩ ⟨Nat.zero_le _, by simpa [encRows] using hR, hS⟩ ?_
  rintro ⟨j, v, R⟩ w ⟨hj, hR, hS⟩
  dsimp only at hj hR hS ⊢
  refine W_seq ?_
  refine W_region ?_
  refine O_bin rfl rfl rfl rfl rfl ?_
  refine O_end ?_
  refine W_seq ?_
  refine W_if rfl (fun c9 => ?_) (fun c9 => ?_)
  · skip
    refine W_skip ?_
    refine W_seq ?_
    refine W_block ?_
    refine W_seq ?_
    refine W_region ?_
    have hlt : j < rows.length := by have := of_decide_eq_true c9; omega
    obtain ⟨vs, Ai, ci, hv1, hv2, hv3, hv4, hv5⟩ := hr.at j hlt
    have hw1 := wt_take rows j hlt
    have hw0 := wt_length rows
    have hw2 := encRows_len (rows.take j) (by omega)
    refine O_indexRd rfl rfl rfl rfl (hS.rd hv1 hv2) (by simpa using hv3) hlt (fun ad hA hc => ?_)
    refine O_load rfl rfl rfl rfl hc ?_
    refine O_assign rfl rfl rfl ?_
    refine O_end ?_
    refine W_seq ?_
    refine W_region ?_
    refine O_move rfl rfl rfl ?_
    refine O_move rfl rfl rfl ?_
    refine O_len rfl rfl rfl rfl ?_
    refine O_lit hS rfl rfl rfl rfl rfl rfl (Nat.le_of_ble_eq_true rfl) (fun b15 w hS => ?_)
    have hn := hS.rdAll
    have hna := hS.apart_first (off := 0) (sp := none) (vs := [iv ((rows[j].length : Nat) : Int)])
    have hS := hS.f2.f2
    refine O_call rfl rfl rfl (nums_spec (ns := [((rows[j].length : Nat) : Int)]) hS.own2 hR hn hna (by simp only [List.length_append, List.length_cons, List.length_nil]; omega)) (fun r w ⟨_, v, R, hR, hk⟩ => ?_)
    have hS := (hS.after2 hk).f2.drop
    refine O_end ?_
    refine W_region ?_
    refine O_move rfl rfl rfl ?_
    refine O_move rfl rfl rfl ?_
    refine O_call rfl rfl rfl (raw_spec (ys := rows[j]) hS.own2 hR (hS.rd hv4 hv5) (by have := encRow_len rows[j] (by omega); simp only [encRow, encs, List.flatMap_cons, List.flatMap_nil, List.append_nil, clampN_nat _ (show rows[j].length ≤ 4611686018427387904 by omega), List.length_append] at *; omega)) (fun r w ⟨_, v, R, hR, hk⟩ => ?_)
    have hS := hS.after2 hk
    refine O_end ?_
    refine W_region ?_
    refine O_bin rfl rfl rfl rfl (i64_succ j (by omega)) ?_
    refine O_move rfl rfl rfl ?_
    refine O_end ?_
    refine ⟨(j + 1, v, R), ⟨rfl, rfl, rfl, rfl, trivial⟩, ⟨hlt, ?_, hS⟩, by dsimp only; omega⟩
    rw [encRows_snoc rows j hlt]
    simpa [encRow, encs, clampN_nat _ (show rows[j].length ≤ 4611686018427387904 by omega)] using hR
  · skip
    refine W_exit ?_
    refine ⟨_, rfl, ?_⟩
    refine ⟨rfl, v, R, ?_, hS⟩
    have hj' : j = rows.length := by have := of_decide_eq_false c9; omega
    subst hj'
    simpa using hR

end Go.Proofs.YtaglgnjamihdnaaDoor.R
