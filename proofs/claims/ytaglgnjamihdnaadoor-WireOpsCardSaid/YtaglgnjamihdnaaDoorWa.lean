/- Marks: may one be, a mark as bytes, bytes as a mark. -/
import Derived.Test.YtaglgnjamihdnaaDoorRf
import Derived.Test.YtaglgnjamihdnaaDoorOa
import Derived.Test.YtaglgnjamihdnaaDoorOf
namespace Go.Proofs.YtaglgnjamihdnaaDoor.R
open Go Go.RowKit Go.Proofs
set_option linter.unusedVariables false
set_option linter.unusedSimpArgs false
set_option maxRecDepth 20000

/-- Does a number lie between two others? -/
def isin (n a b : Int) : Bool := decide (a ≤ n ∧ n ≤ b)
def prodok (p e t : Int) : Bool := isin p 0 7 && isin e 0 100 && isin t 0 100
def markok (k p e t : Int) : Bool := isin k 1 3 && prodok p e t && (k != 1 || t == 0)
abbrev markv (k p e t : Int) : Value := .agg #[iv k, iv p, iv e, iv t]

theorem isIn_spec {w0 : World} {n a b : Int} : Calls Tryd.prog 35 #[.int .i64 n, .int .i64 a, .int .i64 b] w0 (Ret fun r w => r = .bool (isin n a b) ∧ St w0 [] [] w) := by
  have hS : Own [] w0 := St.start w0
  refine calls_enter (l := [.int .i64 n, .int .i64 a, .int .i64 b]) Tryd.func35 rfl Tryd.ntmps35 Tryd.results35 (Nat.le_of_ble_eq_true rfl) ?_
  refine W_seq ?_
  refine W_region ?_
  refine O_assign rfl rfl rfl ?_
  refine O_end ?_
  refine W_seq ?_
  refine W_region ?_
  refine O_move rfl rfl rfl ?_
  refine O_move rfl rfl rfl ?_
  refine O_bin rfl rfl rfl rfl rfl ?_
  refine O_move rfl rfl rfl ?_
  refine O_part 10 rfl (fun c10 => ?_) (fun c10 => ?_)
  · skip
    refine O_move rfl rfl rfl ?_
    refine O_move rfl rfl rfl ?_
    refine O_bin rfl rfl rfl rfl rfl ?_
    first | refine O_pick_true rfl rfl rfl rfl ?_ | refine O_pick_false rfl rfl rfl rfl ?_
    refine O_assign rfl rfl rfl ?_
    refine O_end ?_
    refine W_ret ⟨_, rfl, ?_⟩
    refine ⟨congrArg Value.bool ?_, hS⟩
    have h := of_decide_eq_true c10
    unfold isin
    rw [decide_eq_decide]
    omega
  · skip
    refine O_skip rfl rfl ?_
    refine O_skip rfl rfl ?_
    refine O_skip rfl rfl ?_
    first | refine O_pick_true rfl rfl rfl rfl ?_ | refine O_pick_false rfl rfl rfl rfl ?_
    refine O_assign rfl rfl rfl ?_
    refine O_end ?_
    refine W_ret ⟨_, rfl, ?_⟩
    refine ⟨congrArg Value.bool ?_, hS⟩
    have h := of_decide_eq_false c10
    unfold isin
    symm
    rw [decide_eq_false_iff_not]
    omega

theorem in_spec {w0 : World} {n a b : Int} : Calls Tryd.prog 16 #[.int .i64 n, .int .i64 a, .int .i64 b] w0 (Ret fun r w => r = .bool (isin n a b) ∧ St w0 [] [] w) := by
  have hS : Own [] w0 := St.start w0
  refine calls_enter (l := [.int .i64 n, .int .i64 a, .int .i64 b]) Tryd.func16 rfl Tryd.ntmps16 Tryd.results16 (Nat.le_of_ble_eq_true rfl) ?_
  refine W_seq ?_
  refine W_region ?_
  refine O_assign rfl rfl rfl ?_
  refine O_end ?_
  refine W_seq ?_
  refine W_region ?_
  refine O_move rfl rfl rfl ?_
  refine O_move rfl rfl rfl ?_
  refine O_bin rfl rfl rfl rfl rfl ?_
  refine O_move rfl rfl rfl ?_
  refine O_part 10 rfl (fun c10 => ?_) (fun c10 => ?_)
  · skip
    refine O_move rfl rfl rfl ?_
    refine O_move rfl rfl rfl ?_
    refine O_bin rfl rfl rfl rfl rfl ?_
    first | refine O_pick_true rfl rfl rfl rfl ?_ | refine O_pick_false rfl rfl rfl rfl ?_
    refine O_assign rfl rfl rfl ?_
    refine O_end ?_
    refine W_ret ⟨_, rfl, ?_⟩
    refine ⟨congrArg Value.bool ?_, hS⟩
    have h := of_decide_eq_true c10
    unfold isin
    rw [decide_eq_decide]
    omega
  · skip
    refine O_skip rfl rfl ?_
    refine O_skip rfl rfl ?_
    refine O_skip rfl rfl ?_
    first | refine O_pick_true rfl rfl rfl rfl ?_ | refine O_pick_false rfl rfl rfl rfl ?_
    refine O_assign rfl rfl rfl ?_
    refine O_end ?_
    refine W_ret ⟨_, rfl, ?_⟩
    refine ⟨congrArg Value.bool ?_, hS⟩
    have h := of_decide_eq_false c10
    unfold isin
    symm
    rw [decide_eq_false_iff_not]
    omega

theorem isProducer_spec {w0 : World} {p e t : Int} : Calls Tryd.prog 36 #[.int .i64 p, .int .i64 e, .int .i64 t] w0 (Ret fun r w => r = .bool (prodok p e t) ∧ St w0 [] [] w) := by
  have hS : Own [] w0 := St.start w0
  refine calls_enter (l := [.int .i64 p, .int .i64 e, .int .i64 t]) Tryd.func36 rfl Tryd.ntmps36 Tryd.results36 (Nat.le_of_ble_eq_true rfl) ?_
  refine W_seq ?_
  refine W_region ?_
  refine O_assign rfl rfl rfl ?_
  refine O_end ?_
  refine W_seq ?_
  refine W_region ?_
  refine O_move rfl rfl rfl ?_
  have hcall := isIn_spec (w0 := w0) (n := p) (a := 0) (b := 7)
  refine O_call rfl rfl rfl hcall (fun r w ⟨hz, hk⟩ => ?_)
  subst hz
  have hS := hS.after0 hk
  refine O_move rfl rfl rfl ?_
  refine O_part 9 rfl (fun c9 => ?_) (fun c9 => ?_)
  · skip
    refine O_move rfl rfl rfl ?_
    have hcall := isIn_spec (w0 := w) (n := e) (a := 0) (b := 100)
    refine O_call rfl rfl rfl hcall (fun r w ⟨hz, hk⟩ => ?_)
    subst hz
    have hS := hS.after0 hk
    first | refine O_pick_true rfl rfl rfl rfl ?_ | refine O_pick_false rfl rfl rfl rfl ?_
    refine O_move rfl rfl rfl ?_
    refine O_part 13 rfl (fun c13 => ?_) (fun c13 => ?_)
    · skip
      refine O_move rfl rfl rfl ?_
      have hcall := isIn_spec (w0 := w) (n := t) (a := 0) (b := 100)
      refine O_call rfl rfl rfl hcall (fun r w ⟨hz, hk⟩ => ?_)
      subst hz
      have hS := hS.after0 hk
      first | refine O_pick_true rfl rfl rfl rfl ?_ | refine O_pick_false rfl rfl rfl rfl ?_
      refine O_assign rfl rfl rfl ?_
      refine O_end ?_
      refine W_ret ⟨_, rfl, ?_⟩
      refine ⟨congrArg Value.bool ?_, hS⟩
      unfold prodok
      simp_all
    · skip
      refine O_skip rfl rfl ?_
      refine O_skip rfl rfl ?_
      first | refine O_pick_true rfl rfl rfl rfl ?_ | refine O_pick_false rfl rfl rfl rfl ?_
      refine O_assign rfl rfl rfl ?_
      refine O_end ?_
      refine W_ret ⟨_, rfl, ?_⟩
      refine ⟨congrArg Value.bool ?_, hS⟩
      unfold prodok
      simp_all
  · skip
    refine O_skip rfl rfl ?_
    refine O_skip rfl rfl ?_
    first | refine O_pick_true rfl rfl rfl rfl ?_ | refine O_pick_false rfl rfl rfl rfl ?_
    refine O_move rfl rfl rfl ?_
    refine O_know 13 (.bool false) rfl (congrArg Value.bool (rfl)) ?_
    refine O_skip rfl rfl ?_
    refine O_skip rfl rfl ?_
    first | refine O_pick_true rfl rfl rfl rfl ?_ | refine O_pick_false rfl rfl rfl rfl ?_
    refine O_assign rfl rfl rfl ?_
    refine O_end ?_
    refine W_ret ⟨_, rfl, ?_⟩
    refine ⟨congrArg Value.bool ?_, hS⟩
    unfold prodok
    simp_all

theorem isMark_spec {w0 : World} {k p e t : Int} : Calls Tryd.prog 32 #[markv k p e t] w0 (Ret fun r w => r = .bool (markok k p e t) ∧ St w0 [] [] w) := by
  have hS : Own [] w0 := St.start w0
  refine calls_enter (l := [markv k p e t]) Tryd.func32 rfl Tryd.ntmps32 Tryd.results32 (Nat.le_of_ble_eq_true rfl) ?_
  refine W_seq ?_
  refine W_region ?_
  refine O_box hS rfl rfl rfl (fun b1 w hS => ?_)
  refine O_assign rfl rfl rfl ?_
  refine O_end ?_
  refine W_seq ?_
  refine W_region ?_
  refine O_fieldAddr rfl rfl rfl ?_
  first | refine O_load rfl rfl rfl rfl (hS.cell rfl) ?_ | refine O_load rfl rfl rfl rfl (by assumption) ?_
  have hcall := isIn_spec (w0 := w) (n := k) (a := 1) (b := 3)
  refine O_call rfl rfl rfl hcall (fun r w ⟨hz, hk⟩ => ?_)
  subst hz
  have hS := hS.after0 hk
  refine O_move rfl rfl rfl ?_
  refine O_part 6 rfl (fun c6 => ?_) (fun c6 => ?_)
  · skip
    refine O_fieldAddr rfl rfl rfl ?_
    first | refine O_load rfl rfl rfl rfl (hS.cell rfl) ?_ | refine O_load rfl rfl rfl rfl (by assumption) ?_
    refine O_fieldAddr rfl rfl rfl ?_
    first | refine O_load rfl rfl rfl rfl (hS.cell rfl) ?_ | refine O_load rfl rfl rfl rfl (by assumption) ?_
    refine O_fieldAddr rfl rfl rfl ?_
    first | refine O_load rfl rfl rfl rfl (hS.cell rfl) ?_ | refine O_load rfl rfl rfl rfl (by assumption) ?_
    have hcall := isProducer_spec (w0 := w) (p := p) (e := e) (t := t)
    refine O_call rfl rfl rfl hcall (fun r w ⟨hz, hk⟩ => ?_)
    subst hz
    have hS := hS.after0 hk
    first | refine O_pick_true rfl rfl rfl rfl ?_ | refine O_pick_false rfl rfl rfl rfl ?_
    refine O_move rfl rfl rfl ?_
    refine O_part 15 rfl (fun c15 => ?_) (fun c15 => ?_)
    · skip
      refine O_fieldAddr rfl rfl rfl ?_
      first | refine O_load rfl rfl rfl rfl (hS.cell rfl) ?_ | refine O_load rfl rfl rfl rfl (by assumption) ?_
      refine O_bin rfl rfl rfl rfl rfl ?_
      refine O_move rfl rfl rfl ?_
      refine O_part 19 rfl (fun c19 => ?_) (fun c19 => ?_)
      · skip
        refine O_skip rfl rfl ?_
        refine O_skip rfl rfl ?_
        refine O_skip rfl rfl ?_
        first | refine O_pick_true rfl rfl rfl rfl ?_ | refine O_pick_false rfl rfl rfl rfl ?_
        first | refine O_pick_true rfl rfl rfl rfl ?_ | refine O_pick_false rfl rfl rfl rfl ?_
        refine O_assign rfl rfl rfl ?_
        refine O_end ?_
        refine W_ret ⟨_, rfl, ?_⟩
        refine ⟨congrArg Value.bool ?_, hS.bare⟩
        unfold markok
        simp_all
      · skip
        refine O_fieldAddr rfl rfl rfl ?_
        first | refine O_load rfl rfl rfl rfl (hS.cell rfl) ?_ | refine O_load rfl rfl rfl rfl (by assumption) ?_
        refine O_bin rfl rfl rfl rfl rfl ?_
        first | refine O_pick_true rfl rfl rfl rfl ?_ | refine O_pick_false rfl rfl rfl rfl ?_
        first | refine O_pick_true rfl rfl rfl rfl ?_ | refine O_pick_false rfl rfl rfl rfl ?_
        refine O_assign rfl rfl rfl ?_
        refine O_end ?_
        refine W_ret ⟨_, rfl, ?_⟩
        refine ⟨congrArg Value.bool ?_, hS.bare⟩
        unfold markok
        simp_all
    · skip
      refine O_skip rfl rfl ?_
      refine O_skip rfl rfl ?_
      refine O_skip rfl rfl ?_
      refine O_skip rfl rfl ?_
      refine O_skip rfl rfl ?_
      refine O_skip rfl rfl ?_
      refine O_skip rfl rfl ?_
      refine O_skip rfl rfl ?_
      first | refine O_pick_true rfl rfl rfl rfl ?_ | refine O_pick_false rfl rfl rfl rfl ?_
      refine O_assign rfl rfl rfl ?_
      refine O_end ?_
      refine W_ret ⟨_, rfl, ?_⟩
      refine ⟨congrArg Value.bool ?_, hS.bare⟩
      unfold markok
      simp_all
  · skip
    refine O_skip rfl rfl ?_
    refine O_skip rfl rfl ?_
    refine O_skip rfl rfl ?_
    refine O_skip rfl rfl ?_
    refine O_skip rfl rfl ?_
    refine O_skip rfl rfl ?_
    refine O_skip rfl rfl ?_
    first | refine O_pick_true rfl rfl rfl rfl ?_ | refine O_pick_false rfl rfl rfl rfl ?_
    refine O_move rfl rfl rfl ?_
    refine O_know 15 (.bool false) rfl (congrArg Value.bool (rfl)) ?_
    refine O_skip rfl rfl ?_
    refine O_skip rfl rfl ?_
    refine O_skip rfl rfl ?_
    refine O_skip rfl rfl ?_
    refine O_skip rfl rfl ?_
    refine O_skip rfl rfl ?_
    refine O_skip rfl rfl ?_
    refine O_skip rfl rfl ?_
    first | refine O_pick_true rfl rfl rfl rfl ?_ | refine O_pick_false rfl rfl rfl rfl ?_
    refine O_assign rfl rfl rfl ?_
    refine O_end ?_
    refine W_ret ⟨_, rfl, ?_⟩
    refine ⟨congrArg Value.bool ?_, hS.bare⟩
    unfold markok
    simp_all

theorem IsMark_spec {w0 : World} {k p e t : Int} : Calls Tryd.prog 33 #[markv k p e t] w0 (Ret fun r w => r = .bool (markok k p e t) ∧ St w0 [] [] w) := by
  have hS : Own [] w0 := St.start w0
  refine calls_enter (l := [markv k p e t]) Tryd.func33 rfl Tryd.ntmps33 Tryd.results33 (Nat.le_of_ble_eq_true rfl) ?_
  refine W_seq ?_
  refine W_region ?_
  refine O_box hS rfl rfl rfl (fun b1 w hS => ?_)
  refine O_assign rfl rfl rfl ?_
  refine O_end ?_
  refine W_seq ?_
  refine W_region ?_
  refine O_fieldAddr rfl rfl rfl ?_
  first | refine O_load rfl rfl rfl rfl (hS.cell rfl) ?_ | refine O_load rfl rfl rfl rfl (by assumption) ?_
  have hcall := in_spec (w0 := w) (n := k) (a := 1) (b := 3)
  refine O_call rfl rfl rfl hcall (fun r w ⟨hz, hk⟩ => ?_)
  subst hz
  have hS := hS.after0 hk
  refine O_move rfl rfl rfl ?_
  refine O_part 6 rfl (fun c6 => ?_) (fun c6 => ?_)
  · skip
    refine O_fieldAddr rfl rfl rfl ?_
    first | refine O_load rfl rfl rfl rfl (hS.cell rfl) ?_ | refine O_load rfl rfl rfl rfl (by assumption) ?_
    have hcall := in_spec (w0 := w) (n := p) (a := 0) (b := 7)
    refine O_call rfl rfl rfl hcall (fun r w ⟨hz, hk⟩ => ?_)
    subst hz
    have hS := hS.after0 hk
    first | refine O_pick_true rfl rfl rfl rfl ?_ | refine O_pick_false rfl rfl rfl rfl ?_
    refine O_move rfl rfl rfl ?_
    refine O_part 11 rfl (fun c11 => ?_) (fun c11 => ?_)
    · skip
      refine O_fieldAddr rfl rfl rfl ?_
      first | refine O_load rfl rfl rfl rfl (hS.cell rfl) ?_ | refine O_load rfl rfl rfl rfl (by assumption) ?_
      have hcall := in_spec (w0 := w) (n := e) (a := 0) (b := 100)
      refine O_call rfl rfl rfl hcall (fun r w ⟨hz, hk⟩ => ?_)
      subst hz
      have hS := hS.after0 hk
      first | refine O_pick_true rfl rfl rfl rfl ?_ | refine O_pick_false rfl rfl rfl rfl ?_
      refine O_move rfl rfl rfl ?_
      refine O_part 16 rfl (fun c16 => ?_) (fun c16 => ?_)
      · skip
        refine O_fieldAddr rfl rfl rfl ?_
        first | refine O_load rfl rfl rfl rfl (hS.cell rfl) ?_ | refine O_load rfl rfl rfl rfl (by assumption) ?_
        have hcall := in_spec (w0 := w) (n := t) (a := 0) (b := 100)
        refine O_call rfl rfl rfl hcall (fun r w ⟨hz, hk⟩ => ?_)
        subst hz
        have hS := hS.after0 hk
        first | refine O_pick_true rfl rfl rfl rfl ?_ | refine O_pick_false rfl rfl rfl rfl ?_
        refine O_move rfl rfl rfl ?_
        refine O_part 21 rfl (fun c21 => ?_) (fun c21 => ?_)
        · skip
          refine O_fieldAddr rfl rfl rfl ?_
          first | refine O_load rfl rfl rfl rfl (hS.cell rfl) ?_ | refine O_load rfl rfl rfl rfl (by assumption) ?_
          refine O_bin rfl rfl rfl rfl rfl ?_
          refine O_move rfl rfl rfl ?_
          refine O_part 25 rfl (fun c25 => ?_) (fun c25 => ?_)
          · skip
            refine O_skip rfl rfl ?_
            refine O_skip rfl rfl ?_
            refine O_skip rfl rfl ?_
            first | refine O_pick_true rfl rfl rfl rfl ?_ | refine O_pick_false rfl rfl rfl rfl ?_
            first | refine O_pick_true rfl rfl rfl rfl ?_ | refine O_pick_false rfl rfl rfl rfl ?_
            refine O_assign rfl rfl rfl ?_
            refine O_end ?_
            refine W_ret ⟨_, rfl, ?_⟩
            refine ⟨congrArg Value.bool ?_, hS.bare⟩
            unfold markok prodok
            simp_all
          · skip
            refine O_fieldAddr rfl rfl rfl ?_
            first | refine O_load rfl rfl rfl rfl (hS.cell rfl) ?_ | refine O_load rfl rfl rfl rfl (by assumption) ?_
            refine O_bin rfl rfl rfl rfl rfl ?_
            first | refine O_pick_true rfl rfl rfl rfl ?_ | refine O_pick_false rfl rfl rfl rfl ?_
            first | refine O_pick_true rfl rfl rfl rfl ?_ | refine O_pick_false rfl rfl rfl rfl ?_
            refine O_assign rfl rfl rfl ?_
            refine O_end ?_
            refine W_ret ⟨_, rfl, ?_⟩
            refine ⟨congrArg Value.bool ?_, hS.bare⟩
            unfold markok prodok
            simp_all
        · skip
          refine O_skip rfl rfl ?_
          refine O_skip rfl rfl ?_
          refine O_skip rfl rfl ?_
          refine O_skip rfl rfl ?_
          refine O_skip rfl rfl ?_
          refine O_skip rfl rfl ?_
          refine O_skip rfl rfl ?_
          refine O_skip rfl rfl ?_
          first | refine O_pick_true rfl rfl rfl rfl ?_ | refine O_pick_false rfl rfl rfl rfl ?_
          refine O_assign rfl rfl rfl ?_
          refine O_end ?_
          refine W_ret ⟨_, rfl, ?_⟩
          refine ⟨congrArg Value.bool ?_, hS.bare⟩
          unfold markok prodok
          simp_all
      · skip
        refine O_skip rfl rfl ?_
        refine O_skip rfl rfl ?_
        refine O_skip rfl rfl ?_
        first | refine O_pick_true rfl rfl rfl rfl ?_ | refine O_pick_false rfl rfl rfl rfl ?_
        refine O_move rfl rfl rfl ?_
        refine O_know 21 (.bool false) rfl (congrArg Value.bool (rfl)) ?_
        refine O_skip rfl rfl ?_
        refine O_skip rfl rfl ?_
        refine O_skip rfl rfl ?_
        refine O_skip rfl rfl ?_
        refine O_skip rfl rfl ?_
        refine O_skip rfl rfl ?_
        refine O_skip rfl rfl ?_
        refine O_skip rfl rfl ?_
        first | refine O_pick_true rfl rfl rfl rfl ?_ | refine O_pick_false rfl rfl rfl rfl ?_
        refine O_assign rfl rfl rfl ?_
        refine O_end ?_
        refine W_ret ⟨_, rfl, ?_⟩
        refine ⟨congrArg Value.bool ?_, hS.bare⟩
        unfold markok prodok
        simp_all
    · skip
      refine O_skip rfl rfl ?_
      refine O_skip rfl rfl ?_
      refine O_skip rfl rfl ?_
      first | refine O_pick_true rfl rfl rfl rfl ?_ | refine O_pick_false rfl rfl rfl rfl ?_
      refine O_move rfl rfl rfl ?_
      refine O_know 16 (.bool false) rfl (congrArg Value.bool (rfl)) ?_
      refine O_skip rfl rfl ?_
      refine O_skip rfl rfl ?_
      refine O_skip rfl rfl ?_
      first | refine O_pick_true rfl rfl rfl rfl ?_ | refine O_pick_false rfl rfl rfl rfl ?_
      refine O_move rfl rfl rfl ?_
      refine O_know 21 (.bool false) rfl (congrArg Value.bool (rfl)) ?_
      refine O_skip rfl rfl ?_
      refine O_skip rfl rfl ?_
      refine O_skip rfl rfl ?_
      refine O_skip rfl rfl ?_
      refine O_skip rfl rfl ?_
      refine O_skip rfl rfl ?_
      refine O_skip rfl rfl ?_
      refine O_skip rfl rfl ?_
      first | refine O_pick_true rfl rfl rfl rfl ?_ | refine O_pick_false rfl rfl rfl rfl ?_
      refine O_assign rfl rfl rfl ?_
      refine O_end ?_
      refine W_ret ⟨_, rfl, ?_⟩
      refine ⟨congrArg Value.bool ?_, hS.bare⟩
      unfold markok prodok
      simp_all
  · skip
    refine O_skip rfl rfl ?_
    refine O_skip rfl rfl ?_
    refine O_skip rfl rfl ?_
    first | refine O_pick_true rfl rfl rfl rfl ?_ | refine O_pick_false rfl rfl rfl rfl ?_
    refine O_move rfl rfl rfl ?_
    refine O_know 11 (.bool false) rfl (congrArg Value.bool (rfl)) ?_
    refine O_skip rfl rfl ?_
    refine O_skip rfl rfl ?_
    refine O_skip rfl rfl ?_
    first | refine O_pick_true rfl rfl rfl rfl ?_ | refine O_pick_false rfl rfl rfl rfl ?_
    refine O_move rfl rfl rfl ?_
    refine O_know 16 (.bool false) rfl (congrArg Value.bool (rfl)) ?_
    refine O_skip rfl rfl ?_
    refine O_skip rfl rfl ?_
    refine O_skip rfl rfl ?_
    first | refine O_pick_true rfl rfl rfl rfl ?_ | refine O_pick_false rfl rfl rfl rfl ?_
    refine O_move rfl rfl rfl ?_
    refine O_know 21 (.bool false) rfl (congrArg Value.bool (rfl)) ?_
    refine O_skip rfl rfl ?_
    refine O_skip rfl rfl ?_
    refine O_skip rfl rfl ?_
    refine O_skip rfl rfl ?_
    refine O_skip rfl rfl ?_
    refine O_skip rfl rfl ?_
    refine O_skip rfl rfl ?_
    refine O_skip rfl rfl ?_
    first | refine O_pick_true rfl rfl rfl rfl ?_ | refine O_pick_false rfl rfl rfl rfl ?_
    refine O_assign rfl rfl rfl ?_
    refine O_end ?_
    refine W_ret ⟨_, rfl, ?_⟩
    refine ⟨congrArg Value.bool ?_, hS.bare⟩
    unfold markok prodok
    simp_all

theorem encodeMark_spec {w0 : World} {k p e t : Int} : Calls Tryd.prog 12 #[markv k p e t] w0 (Ret fun r w => ∃ v G, r = .tuple #[v, .int .i64 (if markok k p e t then 0 else 1)] ∧ BRow v (if markok k p e t then encs [3, k, p, e, t] else []) G ∧ St w0 [] [G] w) := by
  have hS : Own [] w0 := St.start w0
  refine calls_enter (l := [markv k p e t]) Tryd.func12 rfl Tryd.ntmps12 Tryd.results12 (Nat.le_of_ble_eq_true rfl) ?_
  refine W_seq ?_
  refine W_region ?_
  refine O_box hS rfl rfl rfl (fun b1 w hS => ?_)
  refine O_assign rfl rfl rfl ?_
  refine O_assign rfl rfl rfl ?_
  refine O_end ?_
  refine W_seq ?_
  refine W_seq ?_
  refine W_region ?_
  refine O_loadAgg rfl rfl rfl rfl rfl hS.rdAll ?_
  have hcall := isMark_spec (w0 := w) (k := k) (p := p) (e := e) (t := t)
  refine O_call rfl rfl rfl hcall (fun r w ⟨hz, hk⟩ => ?_)
  subst hz
  have hS := hS.after0 hk
  refine O_not rfl rfl rfl ?_
  refine O_end ?_
  refine W_if rfl (fun c7 => ?_) (fun c7 => ?_)
  · skip
    refine W_seq ?_
    refine W_region ?_
    refine O_assign rfl rfl rfl ?_
    refine O_assign rfl rfl rfl ?_
    refine O_end ?_
    refine W_ret ⟨_, rfl, ?_⟩
    have hm : markok k p e t = false := by simpa using c7
    rw [hm]
    exact ⟨_, [], rfl, Row.nil _ _, hS.bare.empty⟩
  · skip
    refine W_skip ?_
    refine W_seq ?_
    refine W_region ?_
    refine O_alloc hS rfl rfl (fun b4 w hS => ?_)
    have hS := hS.f1
    refine O_end ?_
    refine W_seq ?_
    refine W_region ?_
    refine O_fieldAddr rfl rfl rfl ?_
    first | refine O_load rfl rfl rfl rfl (hS.cell rfl) ?_ | refine O_load rfl rfl rfl rfl (by assumption) ?_
    refine O_fieldAddr rfl rfl rfl ?_
    first | refine O_load rfl rfl rfl rfl (hS.cell rfl) ?_ | refine O_load rfl rfl rfl rfl (by assumption) ?_
    refine O_fieldAddr rfl rfl rfl ?_
    first | refine O_load rfl rfl rfl rfl (hS.cell rfl) ?_ | refine O_load rfl rfl rfl rfl (by assumption) ?_
    refine O_fieldAddr rfl rfl rfl ?_
    first | refine O_load rfl rfl rfl rfl (hS.cell rfl) ?_ | refine O_load rfl rfl rfl rfl (by assumption) ?_
    refine O_lit hS rfl rfl rfl rfl rfl rfl (Nat.le_of_ble_eq_true rfl) (fun b16 w hS => ?_)
    have hS : St w0 [] [[(b16, _)], _, wcell b4 (.slice none 0 0)] w := hS
    have hn := hS.rdAll
    have ha := hS.apart_first (off := 0) (sp := none) (vs := [3, k, p, e, t].map iv)
    have hS := hS.f2.empty.f1
    have hcall := nums_spec (bs := []) (ns := [3, k, p, e, t]) (c := 5) hS.own2 (Row.nil _ _) hn (ha.sub' (by simp) (fun b hb => ids_sub (Gs' := [wcell b4 (.slice none 0 0)]) (by simp) b (by simpa [idsOf] using hb))) (by simp)
    refine O_call rfl rfl rfl hcall (fun r w ⟨hz, v, R, hR, hk⟩ => ?_)
    subst hz
    have hS := hS.after2 hk
    rw [List.nil_append] at hR
    refine O_end ?_
    refine W_seq ?_
    refine W_region ?_
    have hcall := out_spec hS.own2 hR (by have := encs_len [3, k, p, e, t]; simp only [List.length_cons, List.length_nil] at this; omega)
    refine O_call rfl rfl rfl hcall (fun r w ⟨G, hG, hk⟩ => ?_)
    have hS := (hS.after2 hk).keep1
    refine O_assign rfl rfl rfl ?_
    refine O_assign rfl rfl rfl ?_
    refine O_end ?_
    refine W_ret ⟨_, rfl, ?_⟩
    have hm : markok k p e t = true := by simpa using c7
    rw [hm]
    exact ⟨_, G, rfl, hG, hS⟩

end Go.Proofs.YtaglgnjamihdnaaDoor.R
