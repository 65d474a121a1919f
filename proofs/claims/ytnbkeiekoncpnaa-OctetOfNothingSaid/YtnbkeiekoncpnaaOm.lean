/- A nil Writer lays nothing, a nil Reader has nothing: the walks. -/
import Derived.Test.YtnbkeiekoncpnaaOi
namespace Go.Proofs.Ytnbkeiekoncpnaa.R
open Go Go.RowKit Go.Proofs
set_option linter.unusedVariables false
set_option linter.unusedSimpArgs false
set_option maxRecDepth 20000

theorem nums_nil {w0 : World} {s : Value} : Calls Try.prog 12 #[.pointer none, s] w0 (Ret fun x w => x = .tuple #[] ∧ St w0 [] [] w) := by
  have hS : Own [] w0 := St.start w0
  refine calls_enter (l := [.pointer none, s]) Try.func12 rfl Try.ntmps12 Try.results12 (Nat.le_of_ble_eq_true rfl) ?_
  refine W_seq ?_
  refine W_seq ?_
  refine W_region ?_
  refine O_move rfl rfl rfl ?_
  refine O_eql_ptr rfl rfl rfl ?_
  refine O_end ?_
  refine W_if_true rfl (rfl) ?_
  refine W_ret ⟨_, rfl, ?_⟩
  exact ⟨rfl, hS⟩

theorem raw_nil {w0 : World} {s : Value} : Calls Try.prog 29 #[.pointer none, s] w0 (Ret fun x w => x = .tuple #[] ∧ St w0 [] [] w) := by
  have hS : Own [] w0 := St.start w0
  refine calls_enter (l := [.pointer none, s]) Try.func29 rfl Try.ntmps29 Try.results29 (Nat.le_of_ble_eq_true rfl) ?_
  refine W_seq ?_
  refine W_region ?_
  refine O_move rfl rfl rfl ?_
  refine O_neq_ptr rfl rfl rfl ?_
  refine O_end ?_
  refine W_if_false rfl (rfl) ?_
  refine W_skip ?_
  refine ⟨_, rfl, ?_⟩
  exact ⟨rfl, hS⟩

theorem out_nil {w0 : World}  : Calls Try.prog 13 #[.pointer none] w0 (Ret fun x w => x = .slice none 0 0 ∧ St w0 [] [] w) := by
  have hS : Own [] w0 := St.start w0
  refine calls_enter (l := [.pointer none]) Try.func13 rfl Try.ntmps13 Try.results13 (Nat.le_of_ble_eq_true rfl) ?_
  refine W_seq ?_
  refine W_region ?_
  refine O_assign rfl rfl rfl ?_
  refine O_end ?_
  refine W_seq ?_
  refine W_seq ?_
  refine W_region ?_
  refine O_move rfl rfl rfl ?_
  refine O_eql_ptr rfl rfl rfl ?_
  refine O_end ?_
  refine W_if_true rfl (rfl) ?_
  refine W_seq ?_
  refine W_region ?_
  refine O_assign rfl rfl rfl ?_
  refine O_end ?_
  refine W_ret ⟨_, rfl, ?_⟩
  exact ⟨rfl, hS⟩

theorem bad_nil {w0 : World}  : Calls Try.prog 33 #[.pointer none] w0 (Ret fun x w => x = .tuple #[] ∧ St w0 [] [] w) := by
  have hS : Own [] w0 := St.start w0
  refine calls_enter (l := [.pointer none]) Try.func33 rfl Try.ntmps33 Try.results33 (Nat.le_of_ble_eq_true rfl) ?_
  refine W_seq ?_
  refine W_region ?_
  refine O_move rfl rfl rfl ?_
  refine O_neq_ptr rfl rfl rfl ?_
  refine O_end ?_
  refine W_if_false rfl (rfl) ?_
  refine W_skip ?_
  refine ⟨_, rfl, ?_⟩
  exact ⟨rfl, hS⟩

theorem num_nil {w0 : World}  : Calls Try.prog 18 #[.pointer none] w0 (Ret fun x w => x = .int .i64 0 ∧ St w0 [] [] w) := by
  have hS : Own [] w0 := St.start w0
  refine calls_enter (l := [.pointer none]) Try.func18 rfl Try.ntmps18 Try.results18 (Nat.le_of_ble_eq_true rfl) ?_
  refine W_seq ?_
  refine W_region ?_
  refine O_assign rfl rfl rfl ?_
  refine O_end ?_
  refine W_seq ?_
  refine W_seq ?_
  refine W_region ?_
  refine O_move rfl rfl rfl ?_
  refine O_eql_ptr rfl rfl rfl ?_
  refine O_end ?_
  refine W_if_true rfl (rfl) ?_
  refine W_seq ?_
  refine W_region ?_
  refine O_assign rfl rfl rfl ?_
  refine O_end ?_
  refine W_ret ⟨_, rfl, ?_⟩
  exact ⟨rfl, hS⟩

theorem left_nil {w0 : World}  : Calls Try.prog 31 #[.pointer none] w0 (Ret fun x w => x = .int .i64 0 ∧ St w0 [] [] w) := by
  have hS : Own [] w0 := St.start w0
  refine calls_enter (l := [.pointer none]) Try.func31 rfl Try.ntmps31 Try.results31 (Nat.le_of_ble_eq_true rfl) ?_
  refine W_seq ?_
  refine W_region ?_
  refine O_assign rfl rfl rfl ?_
  refine O_end ?_
  refine W_seq ?_
  refine W_seq ?_
  refine W_region ?_
  refine O_move rfl rfl rfl ?_
  refine O_eql_ptr rfl rfl rfl ?_
  refine O_end ?_
  refine W_if_true rfl (rfl) ?_
  refine W_seq ?_
  refine W_region ?_
  refine O_assign rfl rfl rfl ?_
  refine O_end ?_
  refine W_ret ⟨_, rfl, ?_⟩
  exact ⟨rfl, hS⟩

theorem good_nil {w0 : World}  : Calls Try.prog 19 #[.pointer none] w0 (Ret fun x w => x = .bool false ∧ St w0 [] [] w) := by
  have hS : Own [] w0 := St.start w0
  refine calls_enter (l := [.pointer none]) Try.func19 rfl Try.ntmps19 Try.results19 (Nat.le_of_ble_eq_true rfl) ?_
  refine W_seq ?_
  refine W_region ?_
  refine O_assign rfl rfl rfl ?_
  refine O_end ?_
  refine W_seq ?_
  refine W_region ?_
  refine O_move rfl rfl rfl ?_
  refine O_neq_ptr rfl rfl rfl ?_
  refine O_move rfl rfl rfl ?_
  refine O_know 5 (.bool false) rfl (congrArg Value.bool (rfl)) ?_
  refine O_skip rfl rfl ?_
  refine O_skip rfl rfl ?_
  refine O_skip rfl rfl ?_
  refine O_skip rfl rfl ?_
  refine O_skip rfl rfl ?_
  first | refine O_pick_true rfl rfl rfl rfl ?_ | refine O_pick_false rfl rfl rfl rfl ?_
  refine O_assign rfl rfl rfl ?_
  refine O_end ?_
  refine W_ret ⟨_, rfl, ?_⟩
  exact ⟨rfl, hS⟩

theorem rraw_nil {w0 : World} {n : Int} : Calls Try.prog 32 #[.pointer none, .int .i64 n] w0 (Ret fun x w => x = .slice none 0 0 ∧ St w0 [] [] w) := by
  have hS : Own [] w0 := St.start w0
  refine calls_enter (l := [.pointer none, .int .i64 n]) Try.func32 rfl Try.ntmps32 Try.results32 (Nat.le_of_ble_eq_true rfl) ?_
  refine W_seq ?_
  refine W_region ?_
  refine O_assign rfl rfl rfl ?_
  refine O_end ?_
  refine W_seq ?_
  refine W_seq ?_
  refine W_region ?_
  refine O_move rfl rfl rfl ?_
  refine O_eql_ptr rfl rfl rfl ?_
  refine O_move rfl rfl rfl ?_
  refine O_know 8 (.bool true) rfl (congrArg Value.bool (rfl)) ?_
  refine O_skip rfl rfl ?_
  refine O_skip rfl rfl ?_
  first | refine O_pick_true rfl rfl rfl rfl ?_ | refine O_pick_false rfl rfl rfl rfl ?_
  refine O_move rfl rfl rfl ?_
  refine O_know 12 (.bool true) rfl (congrArg Value.bool (rfl)) ?_
  refine O_skip rfl rfl ?_
  refine O_skip rfl rfl ?_
  refine O_skip rfl rfl ?_
  refine O_skip rfl rfl ?_
  refine O_skip rfl rfl ?_
  refine O_skip rfl rfl ?_
  refine O_skip rfl rfl ?_
  first | refine O_pick_true rfl rfl rfl rfl ?_ | refine O_pick_false rfl rfl rfl rfl ?_
  refine O_end ?_
  refine W_if_true rfl (rfl) ?_
  refine W_seq ?_
  refine W_region ?_
  refine O_move rfl rfl rfl ?_
  refine O_call rfl rfl rfl bad_nil (fun r w ⟨hr1, hk⟩ => ?_)
  subst hr1
  have hS := hS.after0 hk
  refine O_end ?_
  refine W_seq ?_
  refine W_region ?_
  refine O_assign rfl rfl rfl ?_
  refine O_end ?_
  refine W_ret ⟨_, rfl, ?_⟩
  exact ⟨rfl, hS⟩

theorem whole_nil {w0 : World}  : Calls Try.prog 20 #[.pointer none] w0 (Ret fun x w => x = .bool false ∧ St w0 [] [] w) := by
  have hS : Own [] w0 := St.start w0
  refine calls_enter (l := [.pointer none]) Try.func20 rfl Try.ntmps20 Try.results20 (Nat.le_of_ble_eq_true rfl) ?_
  refine W_seq ?_
  refine W_region ?_
  refine O_assign rfl rfl rfl ?_
  refine O_end ?_
  refine W_seq ?_
  refine W_region ?_
  refine O_move rfl rfl rfl ?_
  refine O_call rfl rfl rfl good_nil (fun r w ⟨hr1, hk⟩ => ?_)
  subst hr1
  have hS := hS.after0 hk
  refine O_move rfl rfl rfl ?_
  refine O_know 5 (.bool false) rfl (congrArg Value.bool (rfl)) ?_
  refine O_skip rfl rfl ?_
  refine O_skip rfl rfl ?_
  refine O_skip rfl rfl ?_
  refine O_skip rfl rfl ?_
  refine O_skip rfl rfl ?_
  refine O_skip rfl rfl ?_
  first | refine O_pick_true rfl rfl rfl rfl ?_ | refine O_pick_false rfl rfl rfl rfl ?_
  refine O_assign rfl rfl rfl ?_
  refine O_end ?_
  refine W_ret ⟨_, rfl, ?_⟩
  exact ⟨rfl, hS⟩

theorem rbytes_nil {w0 : World}  : Calls Try.prog 30 #[.pointer none] w0 (Ret fun x w => x = .slice none 0 0 ∧ St w0 [] [] w) := by
  have hS : Own [] w0 := St.start w0
  refine calls_enter (l := [.pointer none]) Try.func30 rfl Try.ntmps30 Try.results30 (Nat.le_of_ble_eq_true rfl) ?_
  refine W_seq ?_
  refine W_region ?_
  refine O_assign rfl rfl rfl ?_
  refine O_end ?_
  refine W_seq ?_
  refine W_region ?_
  refine O_move rfl rfl rfl ?_
  refine O_move rfl rfl rfl ?_
  refine O_call rfl rfl rfl num_nil (fun r w ⟨hr1, hk⟩ => ?_)
  subst hr1
  have hS := hS.after0 hk
  refine O_call rfl rfl rfl rraw_nil (fun r w ⟨hr1, hk⟩ => ?_)
  subst hr1
  have hS := hS.after0 hk
  refine O_assign rfl rfl rfl ?_
  refine O_end ?_
  refine W_ret ⟨_, rfl, ?_⟩
  exact ⟨rfl, hS⟩

theorem bytes_nil {w0 : World} {A : Option Addr} {rows : List (List UInt8)} {c : Nat} (hr : RdB w0 A rows []) (hb : rows.length ≤ 1000000) :
    Calls Try.prog 26 #[.pointer none, .slice A rows.length c] w0 (Ret fun x w => x = .tuple #[] ∧ ∃ Gs, St w0 [] Gs w) := by
  have hS : Own [] w0 := St.start w0
  refine calls_enter (l := [.pointer none, .slice A rows.length c]) Try.func26 rfl Try.ntmps26 Try.results26 (Nat.le_of_ble_eq_true rfl) ?_
  refine W_seq ?_
  refine W_region ?_
  refine O_move rfl rfl rfl ?_
  refine O_len rfl rfl rfl rfl ?_
  refine O_move rfl rfl rfl ?_
  refine O_end ?_
  refine W_block ?_
  refine W_loop (ι := Nat) (fun i => [(0, .pointer none), (6, .slice A rows.length c), (7, .int .i64 (rows.length : Nat)), (8, .int .i64 (i : Nat))]) (fun i w => i ≤ rows.length ∧ ∃ Gs, St w0 [] Gs w) (fun i => rows.length - i) 0 ⟨rfl, rfl, rfl, rfl, trivial⟩ ⟨Nat.zero_le _, _, hS⟩ ?_
  rintro j w ⟨hj, Gs, hS⟩
  refine W_seq ?_
  refine W_region ?_
  refine O_bin rfl rfl rfl rfl rfl ?_
  refine O_end ?_
  refine W_seq ?_
  refine W_if rfl (fun c9 => ?_) (fun c9 => ?_)
  · skip
    refine W_skip ?_
    refine W_seq ?_
    refine W_block ?_
    refine W_seq ?_
    refine W_region ?_
    have hlt : j < rows.length := by have := of_decide_eq_true c9; omega
    obtain ⟨vs, Ai, ci, hv1, hv2, hv3, hv4, hv5⟩ := hr.at j hlt
    refine O_indexRd rfl rfl rfl rfl (hS.rd hv1 hv2) (by simpa using hv3) hlt (fun ad hA hc => ?_)
    refine O_load rfl rfl rfl rfl hc ?_
    refine O_assign rfl rfl rfl ?_
    refine O_end ?_
    refine W_seq ?_
    refine W_region ?_
    refine O_move rfl rfl rfl ?_
    refine O_move rfl rfl rfl ?_
    refine O_len rfl rfl rfl rfl ?_
    refine O_lit hS rfl rfl rfl rfl rfl rfl (Nat.le_of_ble_eq_true rfl) (fun b15 w hS => ?_)
    refine O_call rfl rfl rfl nums_nil (fun r w ⟨hr1, hk⟩ => ?_)
    subst hr1
    have hS := hS.after0 hk
    refine O_end ?_
    refine W_region ?_
    refine O_move rfl rfl rfl ?_
    refine O_move rfl rfl rfl ?_
    refine O_call rfl rfl rfl raw_nil (fun r w ⟨hr1, hk⟩ => ?_)
    subst hr1
    have hS := hS.after0 hk
    refine O_end ?_
    refine W_region ?_
    refine O_bin rfl rfl rfl rfl (i64_succ j (by omega)) ?_
    refine O_move rfl rfl rfl ?_
    refine O_end ?_
    exact ⟨j + 1, ⟨rfl, rfl, rfl, rfl, trivial⟩, ⟨hlt, _, hS⟩, by omega⟩
  · skip
    refine W_exit ?_
    refine ⟨_, rfl, ?_⟩
    exact ⟨rfl, _, hS⟩

theorem Nums_nil {w0 : World} {A : Option Addr} {c : Nat} (hr : Rd w0 A [.pointer none]) :
    Calls Try.prog 34 #[.pointer none, .slice A 1 c] w0 (Ret fun x w => x = .tuple #[] ∧ St w0 [] [] w) := by
  have hS : Own [] w0 := St.start w0
  refine calls_enter (l := [.pointer none, .slice A 1 c]) Try.func34 rfl Try.ntmps34 Try.results34 (Nat.le_of_ble_eq_true rfl) ?_
  refine W_seq ?_
  refine W_region ?_
  refine O_move rfl rfl rfl ?_
  refine O_len rfl rfl rfl rfl ?_
  refine O_move rfl rfl rfl ?_
  refine O_end ?_
  refine W_block ?_
  refine W_loop (ι := Nat) (fun i => [(0, .pointer none), (7, .slice A 1 c), (8, .int .i64 1), (9, .int .i64 (i : Nat))]) (fun i w => i ≤ 1 ∧ St w0 [] [] w) (fun i => 1 - i) 0 ⟨rfl, rfl, rfl, rfl, trivial⟩ ⟨Nat.zero_le _, hS⟩ ?_
  rintro j w ⟨hj, hS⟩
  refine W_seq ?_
  refine W_region ?_
  refine O_bin rfl rfl rfl rfl rfl ?_
  refine O_end ?_
  refine W_seq ?_
  refine W_if rfl (fun c10 => ?_) (fun c10 => ?_)
  · skip
    refine W_skip ?_
    refine W_seq ?_
    refine W_block ?_
    refine W_seq ?_
    refine W_region ?_
    have hlt : j < 1 := by have := of_decide_eq_true c10; omega
    refine O_indexRd rfl rfl rfl rfl (hS.rd hr (Apart.of_nil _ _)) (v := .pointer none) (by rw [show j = 0 by omega]; rfl) hlt (fun ad hA hc => ?_)
    refine O_load rfl rfl rfl rfl hc ?_
    refine O_assign rfl rfl rfl ?_
    refine O_end ?_
    refine W_seq ?_
    refine W_region ?_
    refine O_move rfl rfl rfl ?_
    refine O_call rfl rfl rfl num_nil (fun r w ⟨hr1, hk⟩ => ?_)
    subst hr1
    have hS := hS.after0 hk
    refine O_assign rfl rfl rfl ?_
    refine O_end ?_
    refine W_seq ?_
    refine W_region ?_
    refine O_move rfl rfl rfl ?_
    refine O_neq_ptr rfl rfl rfl ?_
    refine O_end ?_
    refine W_if_false rfl (rfl) ?_
    refine W_skip ?_
    refine W_region ?_
    refine O_bin rfl rfl rfl rfl (i64_succ j (by omega)) ?_
    refine O_move rfl rfl rfl ?_
    refine O_end ?_
    exact ⟨j + 1, ⟨rfl, rfl, rfl, rfl, trivial⟩, ⟨hlt, hS⟩, by omega⟩
  · skip
    refine W_exit ?_
    refine ⟨_, rfl, ?_⟩
    exact ⟨rfl, hS⟩

set_option maxHeartbeats 200000 in
theorem octetOfNothing_spec {w0 : World} {z : Int} {B : Option Addr} {bs : List UInt8} {d : Nat} (hr : Rd w0 B (bvs bs)) :
    Calls Try.prog 9 #[.int .i64 z, .slice B bs.length d] w0 (Ret fun r w => r = .bool true ∧ ∃ Gs, St w0 [] Gs w) := by
  have hS : Own [] w0 := St.start w0
  refine calls_enter (l := [.int .i64 z, .slice B bs.length d]) Try.func9 rfl Try.ntmps9 Try.results9 (Nat.le_of_ble_eq_true rfl) ?_
  refine W_seq ?_
  refine W_region ?_
  refine O_assign rfl rfl rfl ?_
  refine O_end ?_
  refine W_seq ?_
  refine W_seq ?_
  refine W_region ?_
  refine O_move rfl rfl rfl ?_
  refine O_len rfl rfl rfl rfl ?_
  refine O_bin rfl rfl rfl rfl rfl ?_
  refine O_end ?_
  refine W_if rfl (fun c9 => ?_) (fun c9 => ?_)
  · skip
    refine W_seq ?_
    refine W_region ?_
    refine O_assign rfl rfl rfl ?_
    refine O_end ?_
    refine W_ret ⟨_, rfl, ?_⟩
    exact ⟨rfl, _, hS⟩
  · skip
    refine W_skip ?_
    refine W_seq ?_
    refine W_region ?_
    refine O_assign rfl rfl rfl ?_
    refine O_end ?_
    refine W_seq ?_
    refine W_region ?_
    refine O_move rfl rfl rfl ?_
    refine O_move rfl rfl rfl ?_
    refine O_lit hS rfl rfl rfl rfl rfl rfl (Nat.le_of_ble_eq_true rfl) (fun b12 w hS => ?_)
    refine O_call rfl rfl rfl nums_nil (fun r w ⟨hr1, hk⟩ => ?_)
    subst hr1
    have hS := hS.after0 hk
    refine O_end ?_
    refine W_seq ?_
    refine W_region ?_
    refine O_move rfl rfl rfl ?_
    refine O_move rfl rfl rfl ?_
    refine O_lit hS rfl rfl rfl rfl rfl rfl (Nat.le_of_ble_eq_true rfl) (fun b16 w hS => ?_)
    have hn1 := hS.rdAll
    have hb1 : RdB w (some ⟨b16, 0, none⟩) [bs] [] := RdB.one hn1 rfl (Apart.of_nil _ _) (hS.rd hr (Apart.of_nil _ _)) (Apart.of_nil _ _)
    have hbn := bytes_nil (c := 1) hb1 (by simp)
    refine O_call rfl rfl rfl hbn (fun r w ⟨hr1, Gs1, hk⟩ => ?_)
    subst hr1
    have hS := hS.after0 hk
    refine O_end ?_
    refine W_seq ?_
    refine W_region ?_
    refine O_move rfl rfl rfl ?_
    refine O_move rfl rfl rfl ?_
    refine O_call rfl rfl rfl raw_nil (fun r w ⟨hr1, hk⟩ => ?_)
    subst hr1
    have hS := hS.after0 hk
    refine O_end ?_
    refine W_seq ?_
    refine W_region ?_
    refine O_assign rfl rfl rfl ?_
    refine O_end ?_
    refine W_seq ?_
    refine W_region ?_
    refine O_move rfl rfl rfl ?_
    refine O_call rfl rfl rfl bad_nil (fun r w ⟨hr1, hk⟩ => ?_)
    subst hr1
    have hS := hS.after0 hk
    refine O_end ?_
    refine W_seq ?_
    refine W_region ?_
    refine O_move rfl rfl rfl ?_
    refine O_lit hS rfl rfl rfl rfl rfl rfl (Nat.le_of_ble_eq_true rfl) (fun b24 w hS => ?_)
    have hn1 := hS.rdAll
    refine O_call rfl rfl rfl (Nums_nil (c := 1) hn1) (fun r w ⟨hr1, hk⟩ => ?_)
    subst hr1
    have hS := hS.after0 hk
    refine O_end ?_
    refine W_seq ?_
    refine W_region ?_
    refine O_move rfl rfl rfl ?_
    refine O_call rfl rfl rfl out_nil (fun r w ⟨hr1, hk⟩ => ?_)
    subst hr1
    have hS := hS.after0 hk
    refine O_len rfl rfl rfl rfl ?_
    refine O_move rfl rfl rfl ?_
    refine O_call rfl rfl rfl num_nil (fun r w ⟨hr1, hk⟩ => ?_)
    subst hr1
    have hS := hS.after0 hk
    refine O_bin rfl rfl rfl rfl rfl ?_
    refine O_move rfl rfl rfl ?_
    refine O_call rfl rfl rfl rbytes_nil (fun r w ⟨hr1, hk⟩ => ?_)
    subst hr1
    have hS := hS.after0 hk
    refine O_len rfl rfl rfl rfl ?_
    refine O_bin rfl rfl rfl rfl rfl ?_
    refine O_move rfl rfl rfl ?_
    refine O_move rfl rfl rfl ?_
    refine O_call rfl rfl rfl rraw_nil (fun r w ⟨hr1, hk⟩ => ?_)
    subst hr1
    have hS := hS.after0 hk
    refine O_len rfl rfl rfl rfl ?_
    refine O_bin rfl rfl rfl rfl rfl ?_
    refine O_move rfl rfl rfl ?_
    refine O_call rfl rfl rfl left_nil (fun r w ⟨hr1, hk⟩ => ?_)
    subst hr1
    have hS := hS.after0 hk
    refine O_bin rfl rfl rfl rfl rfl ?_
    refine O_bin rfl rfl rfl rfl rfl ?_
    refine O_move rfl rfl rfl ?_
    refine O_know 45 (.bool true) rfl (congrArg Value.bool (rfl)) ?_
    refine O_move rfl rfl rfl ?_
    refine O_call rfl rfl rfl good_nil (fun r w ⟨hr1, hk⟩ => ?_)
    subst hr1
    have hS := hS.after0 hk
    refine O_not rfl rfl rfl ?_
    first | refine O_pick_true rfl rfl rfl rfl ?_ | refine O_pick_false rfl rfl rfl rfl ?_
    refine O_move rfl rfl rfl ?_
    refine O_know 50 (.bool true) rfl (congrArg Value.bool (rfl)) ?_
    refine O_move rfl rfl rfl ?_
    refine O_call rfl rfl rfl whole_nil (fun r w ⟨hr1, hk⟩ => ?_)
    subst hr1
    have hS := hS.after0 hk
    refine O_not rfl rfl rfl ?_
    first | refine O_pick_true rfl rfl rfl rfl ?_ | refine O_pick_false rfl rfl rfl rfl ?_
    refine O_move rfl rfl rfl ?_
    refine O_know 55 (.bool true) rfl (congrArg Value.bool (rfl)) ?_
    refine O_call rfl rfl rfl known_spec (fun r w ⟨hr1, hk⟩ => ?_)
    subst hr1
    have hS := hS.after0 hk
    first | refine O_pick_true rfl rfl rfl rfl ?_ | refine O_pick_false rfl rfl rfl rfl ?_
    refine O_assign rfl rfl rfl ?_
    refine O_end ?_
    refine W_ret ⟨_, rfl, ?_⟩
    exact ⟨rfl, _, hS⟩

end Go.Proofs.Ytnbkeiekoncpnaa.R
