/- Is a text a name, as the document says it? -/
import Derived.Test.YtaglgnjamihdnaaDoorWk
namespace Go.Proofs.YtaglgnjamihdnaaDoor.R
open Go Go.RowKit Go.Proofs
set_option linter.unusedVariables false
set_option linter.unusedSimpArgs false
set_option maxRecDepth 20000

def nameok (s : List UInt8) : Bool := s.all isletter && decide (1 ≤ s.length ∧ s.length ≤ 8)
theorem all_snoc_l (s : List UInt8) (i : Nat) (hi : i < s.length) : (s.take (i + 1)).all isletter = ((s.take i).all isletter && isletter s[i]) := by
  rw [List.take_succ_eq_append_getElem hi, List.all_append]
  simp
theorem all_stop_l (s : List UInt8) (i : Nat) (hi : i < s.length) (h : isletter s[i] = false) : s.all isletter = false := by
  rw [← Bool.not_eq_true, List.all_eq_true]
  intro h1
  rw [h1 _ (List.getElem_mem hi)] at h
  cases h

theorem Name_spec {w0 : World} {s : List UInt8} (hl : s.length ≤ 9223372036854775807) : Calls Tryd.prog 17 #[.string (strOf s)] w0 (Ret fun r w => r = .bool (nameok s) ∧ St w0 [] [] w) := by
  have hS : Own [] w0 := St.start w0
  refine calls_enter (l := [.string (strOf s)]) Tryd.func17 rfl Tryd.ntmps17 Tryd.results17 (Nat.le_of_ble_eq_true rfl) ?_
  refine W_seq ?_
  refine W_region ?_
  refine O_assign rfl rfl rfl ?_
  refine O_end ?_
  refine W_seq ?_
  refine W_seq ?_
  refine W_region ?_
  refine O_assign rfl rfl rfl ?_
  refine O_end ?_
  refine W_block ?_
  refine W_loop (ι := Nat) (fun i => [(0, .string (strOf s)), (3, .int .i64 (i : Nat))]) (fun i w => i ≤ s.length ∧ (s.take i).all isletter = true ∧ St w0 [] [] w) (fun i => s.length - i) 0 ⟨rfl, rfl, trivial⟩ ⟨Nat.zero_le _, rfl, hS⟩ ?_
  rintro i w ⟨hi, hall, hS⟩
  refine W_seq ?_
  refine W_seq ?_
  refine W_region ?_
  refine O_move rfl rfl rfl ?_
  refine O_move rfl rfl rfl ?_
  refine O_lenstr rfl rfl rfl rfl ?_
  refine O_bin rfl rfl rfl rfl rfl ?_
  refine O_end ?_
  refine W_if rfl (fun c7 => ?_) (fun c7 => ?_)
  · skip
    refine W_skip ?_
    refine W_seq ?_
    refine W_block ?_
    refine W_seq ?_
    refine W_region ?_
    refine O_move rfl rfl rfl ?_
    refine O_move rfl rfl rfl ?_
    have hlt : i < s.length := by have := of_decide_eq_true c7; omega
    refine O_index_str (j := i) rfl rfl rfl rfl hlt ?_
    refine O_bin rfl rfl rfl rfl rfl ?_
    refine O_move rfl rfl rfl ?_
    refine O_part 14 rfl (fun c14 => ?_) (fun c14 => ?_)
    · skip
      refine O_skip rfl rfl ?_
      refine O_skip rfl rfl ?_
      refine O_skip rfl rfl ?_
      refine O_skip rfl rfl ?_
      first | refine O_pick_true rfl rfl rfl rfl ?_ | refine O_pick_false rfl rfl rfl rfl ?_
      refine O_end ?_
      refine W_if_true rfl (rfl) ?_
      refine W_seq ?_
      refine W_region ?_
      refine O_assign rfl rfl rfl ?_
      refine O_end ?_
      refine W_ret ⟨_, rfl, ?_⟩
      have hlet : isletter s[i] = false := by
        unfold isletter
        rw [decide_eq_false_iff_not]
        first
          | (have h1 := of_decide_eq_true c14; omega)
          | (have h1 := of_decide_eq_true c19; omega)
      refine ⟨congrArg Value.bool ?_, hS⟩
      unfold nameok
      rw [all_stop_l s i hlt hlet]
      rfl
    · skip
      refine O_move rfl rfl rfl ?_
      refine O_move rfl rfl rfl ?_
      refine O_index_str (j := i) rfl rfl rfl rfl hlt ?_
      refine O_bin rfl rfl rfl rfl rfl ?_
      first | refine O_pick_true rfl rfl rfl rfl ?_ | refine O_pick_false rfl rfl rfl rfl ?_
      refine O_end ?_
      refine W_if rfl (fun c19 => ?_) (fun c19 => ?_)
      · skip
        refine W_seq ?_
        refine W_region ?_
        refine O_assign rfl rfl rfl ?_
        refine O_end ?_
        refine W_ret ⟨_, rfl, ?_⟩
        have hlet : isletter s[i] = false := by
          unfold isletter
          rw [decide_eq_false_iff_not]
          first
            | (have h1 := of_decide_eq_true c14; omega)
            | (have h1 := of_decide_eq_true c19; omega)
        refine ⟨congrArg Value.bool ?_, hS⟩
        unfold nameok
        rw [all_stop_l s i hlt hlet]
        rfl
      · skip
        refine W_skip ?_
        refine W_region ?_
        refine O_move rfl rfl rfl ?_
        refine O_bin rfl rfl rfl rfl (i64_succ i (by omega)) ?_
        refine O_assign rfl rfl rfl ?_
        refine O_end ?_
        have hlet : isletter s[i] = true := by
          have h1 := of_decide_eq_false c14
          have h2 := of_decide_eq_false c19
          unfold isletter
          rw [decide_eq_true_eq]
          omega
        exact ⟨i + 1, ⟨rfl, rfl, trivial⟩, ⟨hlt, by rw [all_snoc_l s i hlt, hall, hlet]; rfl, hS⟩, by omega⟩
  · skip
    refine W_exit ?_
    refine W_seq ?_
    refine W_region ?_
    refine O_move rfl rfl rfl ?_
    refine O_lenstr rfl rfl rfl rfl ?_
    refine O_bin rfl rfl rfl rfl rfl ?_
    refine O_move rfl rfl rfl ?_
    refine O_part 23 rfl (fun c23 => ?_) (fun c23 => ?_)
    · skip
      refine O_move rfl rfl rfl ?_
      refine O_lenstr rfl rfl rfl rfl ?_
      refine O_bin rfl rfl rfl rfl rfl ?_
      first | refine O_pick_true rfl rfl rfl rfl ?_ | refine O_pick_false rfl rfl rfl rfl ?_
      refine O_assign rfl rfl rfl ?_
      refine O_end ?_
      refine W_ret ⟨_, rfl, ?_⟩
      have hi' : i = s.length := by have := of_decide_eq_false c7; omega
      rw [hi', List.take_length] at hall
      refine ⟨congrArg Value.bool ?_, hS⟩
      unfold nameok
      rw [hall]
      first
        | (have h1 := of_decide_eq_true c23; rw [Bool.true_and, decide_eq_decide]; omega)
        | (have h1 := of_decide_eq_false c23; rw [Bool.true_and]; symm; rw [decide_eq_false_iff_not]; omega)
    · skip
      refine O_skip rfl rfl ?_
      refine O_skip rfl rfl ?_
      refine O_skip rfl rfl ?_
      first | refine O_pick_true rfl rfl rfl rfl ?_ | refine O_pick_false rfl rfl rfl rfl ?_
      refine O_assign rfl rfl rfl ?_
      refine O_end ?_
      refine W_ret ⟨_, rfl, ?_⟩
      have hi' : i = s.length := by have := of_decide_eq_false c7; omega
      rw [hi', List.take_length] at hall
      refine ⟨congrArg Value.bool ?_, hS⟩
      unfold nameok
      rw [hall]
      first
        | (have h1 := of_decide_eq_true c23; rw [Bool.true_and, decide_eq_decide]; omega)
        | (have h1 := of_decide_eq_false c23; rw [Bool.true_and]; symm; rw [decide_eq_false_iff_not]; omega)

end Go.Proofs.YtaglgnjamihdnaaDoor.R
