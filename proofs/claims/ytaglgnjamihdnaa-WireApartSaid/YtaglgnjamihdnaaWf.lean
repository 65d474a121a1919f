/- Which votes and messages may be. -/
import Derived.Test.YtaglgnjamihdnaaWe
namespace Go.Proofs.Ytaglgnjamihdnaa.R
open Go Go.RowKit Go.Proofs
set_option linter.unusedVariables false
set_option linter.unusedSimpArgs false
set_option maxRecDepth 20000

def voteok (x : Vt) : Bool := isin x.k 1 3 && isin x.s 0 63 && isin x.v 0 8 && isin x.f 0 9
def msgok (m : Mg) : Bool := isin m.k 1 6 && isin m.f 0 9 && isin m.to 0 9 && isin m.s 0 63 && isin m.v 0 8 && decide (m.x.length ≤ 200) && decide (m.l.length ≤ 10) && m.l.all voteok
theorem all_snoc (l : List Vt) (i : Nat) (hi : i < l.length) : (l.take (i + 1)).all voteok = ((l.take i).all voteok && voteok l[i]) := by
  rw [List.take_succ_eq_append_getElem hi, List.all_append]
  simp
theorem any_bad (l : List Vt) : (l.any fun x => !voteok x) = !l.all voteok := by
  induction l with
  | nil => rfl
  | cons x r ih => simp [ih]
theorem all_stop (l : List Vt) (i : Nat) (hi : i < l.length) (h : voteok l[i] = false) : l.all voteok = false := by
  rw [← Bool.not_eq_true, List.all_eq_true]
  intro h1
  rw [h1 _ (List.getElem_mem hi)] at h
  cases h

theorem isVote_spec {w0 : World} {x : Vt} (hx : x.ok) : Calls Try.prog 45 #[.agg x.cs.toArray] w0 (Ret fun r w => r = .bool (voteok x) ∧ St w0 [] [] w) := by
  have hS : Own [] w0 := St.start w0
  refine calls_enter (l := [.agg x.cs.toArray]) Try.func45 rfl Try.ntmps45 Try.results45 (Nat.le_of_ble_eq_true rfl) ?_
  refine W_seq ?_
  refine W_region ?_
  refine O_box hS rfl rfl rfl (fun b1 w hS => ?_)
  refine O_assign rfl rfl rfl ?_
  refine O_end ?_
  refine W_seq ?_
  refine W_region ?_
  refine O_fieldAddr rfl rfl rfl ?_
  refine O_load rfl rfl rfl rfl (hS.cell x.c0) ?_
  have hcall := isIn_spec (w0 := w) (n := x.k) (a := 1) (b := 3)
  refine O_call rfl rfl rfl hcall (fun r w ⟨hz, hk⟩ => ?_)
  subst hz
  have hS := hS.after0 hk
  refine O_move rfl rfl rfl ?_
  refine O_part 6 rfl (fun c6 => ?_) (fun c6 => ?_)
  · skip
    refine O_fieldAddr rfl rfl rfl ?_
    refine O_load rfl rfl rfl rfl (hS.cell x.c1) ?_
    have hcall := isIn_spec (w0 := w) (n := x.s) (a := 0) (b := 63)
    refine O_call rfl rfl rfl hcall (fun r w ⟨hz, hk⟩ => ?_)
    subst hz
    have hS := hS.after0 hk
    first | refine O_pick_true rfl rfl rfl rfl ?_ | refine O_pick_false rfl rfl rfl rfl ?_
    refine O_move rfl rfl rfl ?_
    refine O_part 11 rfl (fun c11 => ?_) (fun c11 => ?_)
    · skip
      refine O_fieldAddr rfl rfl rfl ?_
      refine O_load rfl rfl rfl rfl (hS.cell x.c2) ?_
      have hcall := isIn_spec (w0 := w) (n := x.v) (a := 0) (b := 8)
      refine O_call rfl rfl rfl hcall (fun r w ⟨hz, hk⟩ => ?_)
      subst hz
      have hS := hS.after0 hk
      first | refine O_pick_true rfl rfl rfl rfl ?_ | refine O_pick_false rfl rfl rfl rfl ?_
      refine O_move rfl rfl rfl ?_
      refine O_part 16 rfl (fun c16 => ?_) (fun c16 => ?_)
      · skip
        refine O_fieldAddr rfl rfl rfl ?_
        refine O_load rfl rfl rfl rfl (hS.cell (x.c35 hx)) ?_
        have hcall := isIn_spec (w0 := w) (n := x.f) (a := 0) (b := 9)
        refine O_call rfl rfl rfl hcall (fun r w ⟨hz, hk⟩ => ?_)
        subst hz
        have hS := hS.after0 hk
        first | refine O_pick_true rfl rfl rfl rfl ?_ | refine O_pick_false rfl rfl rfl rfl ?_
        refine O_assign rfl rfl rfl ?_
        refine O_end ?_
        refine W_ret ⟨_, rfl, ?_⟩
        refine ⟨congrArg Value.bool ?_, hS.bare⟩
        unfold voteok
        simp_all
      · skip
        refine O_skip rfl rfl ?_
        refine O_skip rfl rfl ?_
        refine O_skip rfl rfl ?_
        first | refine O_pick_true rfl rfl rfl rfl ?_ | refine O_pick_false rfl rfl rfl rfl ?_
        refine O_assign rfl rfl rfl ?_
        refine O_end ?_
        refine W_ret ⟨_, rfl, ?_⟩
        refine ⟨congrArg Value.bool ?_, hS.bare⟩
        unfold voteok
        simp_all
    · skip
      refine O_skip rfl rfl ?_
      refine O_skip rfl rfl ?_
      refine O_skip rfl rfl ?_
      first | refine O_pick_true rfl rfl rfl rfl ?_ | refine O_pick_false rfl rfl rfl rfl ?_
      refine O_move rfl rfl rfl ?_
      refine O_know 16 (.bool false) rfl (congrArg Value.bool (rfl)) ?_
      refine O_skip rfl rfl ?_
      refine O_skip rfl rfl ?_
      refine O_skip rfl rfl ?_
      first | refine O_pick_true rfl rfl rfl rfl ?_ | refine O_pick_false rfl rfl rfl rfl ?_
      refine O_assign rfl rfl rfl ?_
      refine O_end ?_
      refine W_ret ⟨_, rfl, ?_⟩
      refine ⟨congrArg Value.bool ?_, hS.bare⟩
      unfold voteok
      simp_all
  · skip
    refine O_skip rfl rfl ?_
    refine O_skip rfl rfl ?_
    refine O_skip rfl rfl ?_
    first | refine O_pick_true rfl rfl rfl rfl ?_ | refine O_pick_false rfl rfl rfl rfl ?_
    refine O_move rfl rfl rfl ?_
    refine O_know 11 (.bool false) rfl (congrArg Value.bool (rfl)) ?_
    refine O_skip rfl rfl ?_
    refine O_skip rfl rfl ?_
    refine O_skip rfl rfl ?_
    first | refine O_pick_true rfl rfl rfl rfl ?_ | refine O_pick_false rfl rfl rfl rfl ?_
    refine O_move rfl rfl rfl ?_
    refine O_know 16 (.bool false) rfl (congrArg Value.bool (rfl)) ?_
    refine O_skip rfl rfl ?_
    refine O_skip rfl rfl ?_
    refine O_skip rfl rfl ?_
    first | refine O_pick_true rfl rfl rfl rfl ?_ | refine O_pick_false rfl rfl rfl rfl ?_
    refine O_assign rfl rfl rfl ?_
    refine O_end ?_
    refine W_ret ⟨_, rfl, ?_⟩
    refine ⟨congrArg Value.bool ?_, hS.bare⟩
    unfold voteok
    simp_all

theorem IsVote_spec {w0 : World} {x : Vt} (hx : x.ok) : Calls Try.prog 14 #[.agg x.cs.toArray] w0 (Ret fun r w => r = .bool (voteok x) ∧ St w0 [] [] w) := by
  have hS : Own [] w0 := St.start w0
  refine calls_enter (l := [.agg x.cs.toArray]) Try.func14 rfl Try.ntmps14 Try.results14 (Nat.le_of_ble_eq_true rfl) ?_
  refine W_seq ?_
  refine W_region ?_
  refine O_box hS rfl rfl rfl (fun b1 w hS => ?_)
  refine O_assign rfl rfl rfl ?_
  refine O_end ?_
  refine W_seq ?_
  refine W_region ?_
  refine O_fieldAddr rfl rfl rfl ?_
  refine O_load rfl rfl rfl rfl (hS.cell x.c0) ?_
  have hcall := in_spec (w0 := w) (n := x.k) (a := 1) (b := 3)
  refine O_call rfl rfl rfl hcall (fun r w ⟨hz, hk⟩ => ?_)
  subst hz
  have hS := hS.after0 hk
  refine O_move rfl rfl rfl ?_
  refine O_part 6 rfl (fun c6 => ?_) (fun c6 => ?_)
  · skip
    refine O_fieldAddr rfl rfl rfl ?_
    refine O_load rfl rfl rfl rfl (hS.cell x.c1) ?_
    have hcall := in_spec (w0 := w) (n := x.s) (a := 0) (b := 63)
    refine O_call rfl rfl rfl hcall (fun r w ⟨hz, hk⟩ => ?_)
    subst hz
    have hS := hS.after0 hk
    first | refine O_pick_true rfl rfl rfl rfl ?_ | refine O_pick_false rfl rfl rfl rfl ?_
    refine O_move rfl rfl rfl ?_
    refine O_part 11 rfl (fun c11 => ?_) (fun c11 => ?_)
    · skip
      refine O_fieldAddr rfl rfl rfl ?_
      refine O_load rfl rfl rfl rfl (hS.cell x.c2) ?_
      have hcall := in_spec (w0 := w) (n := x.v) (a := 0) (b := 8)
      refine O_call rfl rfl rfl hcall (fun r w ⟨hz, hk⟩ => ?_)
      subst hz
      have hS := hS.after0 hk
      first | refine O_pick_true rfl rfl rfl rfl ?_ | refine O_pick_false rfl rfl rfl rfl ?_
      refine O_move rfl rfl rfl ?_
      refine O_part 16 rfl (fun c16 => ?_) (fun c16 => ?_)
      · skip
        refine O_fieldAddr rfl rfl rfl ?_
        refine O_load rfl rfl rfl rfl (hS.cell (x.c35 hx)) ?_
        have hcall := in_spec (w0 := w) (n := x.f) (a := 0) (b := 9)
        refine O_call rfl rfl rfl hcall (fun r w ⟨hz, hk⟩ => ?_)
        subst hz
        have hS := hS.after0 hk
        first | refine O_pick_true rfl rfl rfl rfl ?_ | refine O_pick_false rfl rfl rfl rfl ?_
        refine O_assign rfl rfl rfl ?_
        refine O_end ?_
        refine W_ret ⟨_, rfl, ?_⟩
        refine ⟨congrArg Value.bool ?_, hS.bare⟩
        unfold voteok
        simp_all
      · skip
        refine O_skip rfl rfl ?_
        refine O_skip rfl rfl ?_
        refine O_skip rfl rfl ?_
        first | refine O_pick_true rfl rfl rfl rfl ?_ | refine O_pick_false rfl rfl rfl rfl ?_
        refine O_assign rfl rfl rfl ?_
        refine O_end ?_
        refine W_ret ⟨_, rfl, ?_⟩
        refine ⟨congrArg Value.bool ?_, hS.bare⟩
        unfold voteok
        simp_all
    · skip
      refine O_skip rfl rfl ?_
      refine O_skip rfl rfl ?_
      refine O_skip rfl rfl ?_
      first | refine O_pick_true rfl rfl rfl rfl ?_ | refine O_pick_false rfl rfl rfl rfl ?_
      refine O_move rfl rfl rfl ?_
      refine O_know 16 (.bool false) rfl (congrArg Value.bool (rfl)) ?_
      refine O_skip rfl rfl ?_
      refine O_skip rfl rfl ?_
      refine O_skip rfl rfl ?_
      first | refine O_pick_true rfl rfl rfl rfl ?_ | refine O_pick_false rfl rfl rfl rfl ?_
      refine O_assign rfl rfl rfl ?_
      refine O_end ?_
      refine W_ret ⟨_, rfl, ?_⟩
      refine ⟨congrArg Value.bool ?_, hS.bare⟩
      unfold voteok
      simp_all
  · skip
    refine O_skip rfl rfl ?_
    refine O_skip rfl rfl ?_
    refine O_skip rfl rfl ?_
    first | refine O_pick_true rfl rfl rfl rfl ?_ | refine O_pick_false rfl rfl rfl rfl ?_
    refine O_move rfl rfl rfl ?_
    refine O_know 11 (.bool false) rfl (congrArg Value.bool (rfl)) ?_
    refine O_skip rfl rfl ?_
    refine O_skip rfl rfl ?_
    refine O_skip rfl rfl ?_
    first | refine O_pick_true rfl rfl rfl rfl ?_ | refine O_pick_false rfl rfl rfl rfl ?_
    refine O_move rfl rfl rfl ?_
    refine O_know 16 (.bool false) rfl (congrArg Value.bool (rfl)) ?_
    refine O_skip rfl rfl ?_
    refine O_skip rfl rfl ?_
    refine O_skip rfl rfl ?_
    first | refine O_pick_true rfl rfl rfl rfl ?_ | refine O_pick_false rfl rfl rfl rfl ?_
    refine O_assign rfl rfl rfl ?_
    refine O_end ?_
    refine W_ret ⟨_, rfl, ?_⟩
    refine ⟨congrArg Value.bool ?_, hS.bare⟩
    unfold voteok
    simp_all

theorem badVote_spec {w0 : World} {x : Vt} (hx : x.ok) : Calls Try.prog 44 #[.agg x.cs.toArray] w0 (Ret fun r w => r = .bool (!voteok x) ∧ St w0 [] [] w) := by
  have hS : Own [] w0 := St.start w0
  refine calls_enter (l := [.agg x.cs.toArray]) Try.func44 rfl Try.ntmps44 Try.results44 (Nat.le_of_ble_eq_true rfl) ?_
  refine W_seq ?_
  refine W_region ?_
  refine O_box hS rfl rfl rfl (fun b1 w hS => ?_)
  refine O_assign rfl rfl rfl ?_
  refine O_end ?_
  refine W_seq ?_
  refine W_region ?_
  refine O_loadAgg (vs := x.cs) rfl rfl rfl rfl (x.len hx) (rd_all hS) ?_
  have hcall := isVote_spec (w0 := w) hx
  refine O_call rfl rfl rfl hcall (fun r w ⟨hz, hk⟩ => ?_)
  subst hz
  have hS := hS.after0 hk
  refine O_not rfl rfl rfl ?_
  refine O_assign rfl rfl rfl ?_
  refine O_end ?_
  refine W_ret ⟨_, rfl, ?_⟩
  exact ⟨rfl, hS.bare⟩

theorem indexFunc_spec {w0 : World} {B : Option Addr} {l : List Vt} {d : Nat} (hr : Rd w0 B (l.flatMap Vt.cs)) (hx : ∀ x ∈ l, x.ok) (hl : l.length ≤ 1000000) :
    Calls Try.prog 46 #[.slice B l.length d, .func (.func 44) #[] #[]] w0 (Ret fun r w => (∃ z : Int, r = .int .i64 z ∧ decide (z ≥ 0) = !l.all voteok) ∧ St w0 [] [] w) := by
  have hS : Own [] w0 := St.start w0
  refine calls_enter (l := [.slice B l.length d, .func (.func 44) #[] #[]]) Try.func46 rfl Try.ntmps46 Try.results46 (Nat.le_of_ble_eq_true rfl) ?_
  refine W_seq ?_
  refine W_region ?_
  refine O_assign rfl rfl rfl ?_
  refine O_end ?_
  refine W_seq ?_
  refine W_seq ?_
  refine W_region ?_
  refine O_move rfl rfl rfl ?_
  refine O_len rfl rfl rfl rfl ?_
  refine O_move rfl rfl rfl ?_
  refine O_end ?_
  refine W_block ?_
  refine W_loop (ι := Nat) (fun i => [(0, .slice B l.length d), (1, .func (.func 44) #[] #[]), (7, .int .i64 (l.length : Nat)), (8, .int .i64 (i : Nat))])
      (fun i w => i ≤ l.length ∧ (l.take i).all voteok = true ∧ St w0 [] [] w) (fun i => l.length - i) 0 ⟨rfl, rfl, rfl, rfl, trivial⟩ ⟨Nat.zero_le _, rfl, hS⟩ ?_
  rintro i w ⟨hi, hall, hS⟩
  refine W_seq ?_
  refine W_region ?_
  refine O_bin rfl rfl rfl rfl rfl ?_
  refine O_end ?_
  refine W_seq ?_
  refine W_if rfl (fun c9 => ?_) (fun c9 => ?_)
  · skip
    refine W_skip ?_
    refine W_seq ?_
    refine W_block ?_
    refine W_seq ?_
    refine W_region ?_
    refine O_move rfl rfl rfl ?_
    refine O_assign rfl rfl rfl ?_
    refine O_end ?_
    refine W_seq ?_
    refine W_region ?_
    refine O_move rfl rfl rfl ?_
    refine O_move rfl rfl rfl ?_
    refine O_move rfl rfl rfl ?_
    have hlt : i < l.length := by have := of_decide_eq_true c9; omega
    have hxi := hx l[i] (List.getElem_mem hlt)
    have hrw := hS.rd hr (Apart.of_nil _ _)
    refine O_indexRd rfl rfl rfl rfl hrw (v := iv l[i].k) (votes_first l hx i hlt) hlt (fun ad hA hc => ?_)
    subst hA
    refine O_loadAgg rfl rfl rfl rfl (l[i].len hxi) (votes_rd hrw hx i hlt) ?_
    have hcall := badVote_spec (w0 := w) hxi
    refine O_callv rfl rfl rfl rfl hcall (fun r w ⟨hz, hk⟩ => ?_)
    subst hz
    have hS := hS.after0 hk
    refine O_end ?_
    refine W_if rfl (fun c16 => ?_) (fun c16 => ?_)
    · skip
      refine W_seq ?_
      refine W_region ?_
      refine O_move rfl rfl rfl ?_
      refine O_assign rfl rfl rfl ?_
      refine O_end ?_
      refine W_ret ⟨_, rfl, ?_⟩
      have h1 : voteok l[i] = false := by simpa using c16
      refine ⟨⟨_, rfl, ?_⟩, hS⟩
      rw [all_stop l i hlt h1]
      simp
    · skip
      refine W_skip ?_
      refine W_region ?_
      refine O_bin rfl rfl rfl rfl (i64_succ i (by omega)) ?_
      refine O_move rfl rfl rfl ?_
      refine O_end ?_
      refine ⟨i + 1, ⟨rfl, rfl, rfl, rfl, trivial⟩, ⟨hlt, ?_, hS⟩, by omega⟩
      have h1 : voteok l[i] = true := by simpa using c16
      rw [all_snoc l i hlt, hall, h1]
      rfl
  · skip
    refine W_exit ?_
    refine W_seq ?_
    refine W_region ?_
    refine O_assign rfl rfl rfl ?_
    refine O_end ?_
    refine W_ret ⟨_, rfl, ?_⟩
    have hi' : i = l.length := by have := of_decide_eq_false c9; omega
    rw [hi', List.take_length] at hall
    refine ⟨⟨_, rfl, ?_⟩, hS⟩
    rw [hall]
    rfl

theorem containsFunc_spec {w0 : World} {B : Option Addr} {l : List Vt} {d : Nat} (hr : Rd w0 B (l.flatMap Vt.cs)) (hx : ∀ x ∈ l, x.ok) (hl : l.length ≤ 1000000) :
    Calls Try.prog 43 #[.slice B l.length d, .func (.func 44) #[] #[]] w0 (Ret fun r w => r = .bool (!l.all voteok) ∧ St w0 [] [] w) := by
  have hS : Own [] w0 := St.start w0
  refine calls_enter (l := [.slice B l.length d, .func (.func 44) #[] #[]]) Try.func43 rfl Try.ntmps43 Try.results43 (Nat.le_of_ble_eq_true rfl) ?_
  refine W_seq ?_
  refine W_region ?_
  refine O_assign rfl rfl rfl ?_
  refine O_end ?_
  refine W_seq ?_
  refine W_region ?_
  refine O_move rfl rfl rfl ?_
  refine O_move rfl rfl rfl ?_
  have hcall := indexFunc_spec (d := d) hr hx hl
  refine O_call rfl rfl rfl hcall (fun r w ⟨⟨z, hz, hza⟩, hk⟩ => ?_)
  subst hz
  have hS := hS.after0 hk
  refine O_bin rfl rfl rfl rfl rfl ?_
  refine O_assign rfl rfl rfl ?_
  refine O_end ?_
  refine W_ret ⟨_, rfl, ?_⟩
  exact ⟨congrArg Value.bool hza, hS⟩

set_option maxHeartbeats 800000 in
theorem isMsg_spec {w0 : World} {m : Mg} (hm : m.ok w0) : Calls Try.prog 36 #[.agg m.cs.toArray] w0 (Ret fun r w => r = .bool (msgok m) ∧ St w0 [] [] w) := by
  have hS : Own [] w0 := St.start w0
  refine calls_enter (l := [.agg m.cs.toArray]) Try.func36 rfl Try.ntmps36 Try.results36 (Nat.le_of_ble_eq_true rfl) ?_
  refine W_seq ?_
  refine W_region ?_
  refine O_box hS rfl rfl rfl (fun b1 w hS => ?_)
  refine O_assign rfl rfl rfl ?_
  refine O_end ?_
  refine W_seq ?_
  refine W_region ?_
  refine O_fieldAddr rfl rfl rfl ?_
  refine O_load rfl rfl rfl rfl (hS.cell m.c0) ?_
  have hcall := isIn_spec (w0 := w) (n := m.k) (a := 1) (b := 6)
  refine O_call rfl rfl rfl hcall (fun r w ⟨hz, hk⟩ => ?_)
  subst hz
  have hS := hS.after0 hk
  refine O_move rfl rfl rfl ?_
  refine O_part 6 rfl (fun c6 => ?_) (fun c6 => ?_)
  · skip
    refine O_fieldAddr rfl rfl rfl ?_
    refine O_load rfl rfl rfl rfl (hS.cell m.c1) ?_
    have hcall := isIn_spec (w0 := w) (n := m.f) (a := 0) (b := 9)
    refine O_call rfl rfl rfl hcall (fun r w ⟨hz, hk⟩ => ?_)
    subst hz
    have hS := hS.after0 hk
    first | refine O_pick_true rfl rfl rfl rfl ?_ | refine O_pick_false rfl rfl rfl rfl ?_
    refine O_move rfl rfl rfl ?_
    refine O_part 11 rfl (fun c11 => ?_) (fun c11 => ?_)
    · skip
      refine O_fieldAddr rfl rfl rfl ?_
      refine O_load rfl rfl rfl rfl (hS.cell m.c2) ?_
      have hcall := isIn_spec (w0 := w) (n := m.to) (a := 0) (b := 9)
      refine O_call rfl rfl rfl hcall (fun r w ⟨hz, hk⟩ => ?_)
      subst hz
      have hS := hS.after0 hk
      first | refine O_pick_true rfl rfl rfl rfl ?_ | refine O_pick_false rfl rfl rfl rfl ?_
      refine O_move rfl rfl rfl ?_
      refine O_part 16 rfl (fun c16 => ?_) (fun c16 => ?_)
      · skip
        refine O_fieldAddr rfl rfl rfl ?_
        refine O_load rfl rfl rfl rfl (hS.cell m.c3) ?_
        have hcall := isIn_spec (w0 := w) (n := m.s) (a := 0) (b := 63)
        refine O_call rfl rfl rfl hcall (fun r w ⟨hz, hk⟩ => ?_)
        subst hz
        have hS := hS.after0 hk
        first | refine O_pick_true rfl rfl rfl rfl ?_ | refine O_pick_false rfl rfl rfl rfl ?_
        refine O_move rfl rfl rfl ?_
        refine O_part 21 rfl (fun c21 => ?_) (fun c21 => ?_)
        · skip
          refine O_fieldAddr rfl rfl rfl ?_
          refine O_load rfl rfl rfl rfl (hS.cell m.c4) ?_
          have hcall := isIn_spec (w0 := w) (n := m.v) (a := 0) (b := 8)
          refine O_call rfl rfl rfl hcall (fun r w ⟨hz, hk⟩ => ?_)
          subst hz
          have hS := hS.after0 hk
          first | refine O_pick_true rfl rfl rfl rfl ?_ | refine O_pick_false rfl rfl rfl rfl ?_
          refine O_move rfl rfl rfl ?_
          refine O_part 26 rfl (fun c26 => ?_) (fun c26 => ?_)
          · skip
            refine O_fieldAddr rfl rfl rfl ?_
            refine O_load rfl rfl rfl rfl (hS.cell m.c5) ?_
            refine O_len rfl rfl rfl rfl ?_
            refine O_bin rfl rfl rfl rfl rfl ?_
            first | refine O_pick_true rfl rfl rfl rfl ?_ | refine O_pick_false rfl rfl rfl rfl ?_
            refine O_move rfl rfl rfl ?_
            refine O_part 32 rfl (fun c32 => ?_) (fun c32 => ?_)
            · skip
              refine O_fieldAddr rfl rfl rfl ?_
              refine O_load rfl rfl rfl rfl (hS.cell m.c6) ?_
              refine O_len rfl rfl rfl rfl ?_
              refine O_bin rfl rfl rfl rfl rfl ?_
              first | refine O_pick_true rfl rfl rfl rfl ?_ | refine O_pick_false rfl rfl rfl rfl ?_
              refine O_move rfl rfl rfl ?_
              refine O_part 38 rfl (fun c38 => ?_) (fun c38 => ?_)
              · skip
                refine O_fieldAddr rfl rfl rfl ?_
                refine O_load rfl rfl rfl rfl (hS.cell m.c6) ?_
                have h10 := of_decide_eq_true c38
                have hcall := containsFunc_spec (d := m.d) (hm.st hS).l hm.votes (by omega)
                refine O_call rfl rfl rfl hcall (fun r w ⟨hz, hk⟩ => ?_)
                subst hz
                have hS := hS.after0 hk
                refine O_not rfl rfl rfl ?_
                first | refine O_pick_true rfl rfl rfl rfl ?_ | refine O_pick_false rfl rfl rfl rfl ?_
                refine O_assign rfl rfl rfl ?_
                refine O_end ?_
                refine W_ret ⟨_, rfl, ?_⟩
                refine ⟨congrArg Value.bool ?_, hS.bare⟩
                unfold msgok
                simp_all <;> omega
              · skip
                refine O_skip rfl rfl ?_
                refine O_skip rfl rfl ?_
                refine O_skip rfl rfl ?_
                refine O_skip rfl rfl ?_
                first | refine O_pick_true rfl rfl rfl rfl ?_ | refine O_pick_false rfl rfl rfl rfl ?_
                refine O_assign rfl rfl rfl ?_
                refine O_end ?_
                refine W_ret ⟨_, rfl, ?_⟩
                refine ⟨congrArg Value.bool ?_, hS.bare⟩
                unfold msgok
                simp_all <;> omega
            · skip
              refine O_skip rfl rfl ?_
              refine O_skip rfl rfl ?_
              refine O_skip rfl rfl ?_
              refine O_skip rfl rfl ?_
              first | refine O_pick_true rfl rfl rfl rfl ?_ | refine O_pick_false rfl rfl rfl rfl ?_
              refine O_move rfl rfl rfl ?_
              refine O_know 38 (.bool false) rfl (congrArg Value.bool (rfl)) ?_
              refine O_skip rfl rfl ?_
              refine O_skip rfl rfl ?_
              refine O_skip rfl rfl ?_
              refine O_skip rfl rfl ?_
              first | refine O_pick_true rfl rfl rfl rfl ?_ | refine O_pick_false rfl rfl rfl rfl ?_
              refine O_assign rfl rfl rfl ?_
              refine O_end ?_
              refine W_ret ⟨_, rfl, ?_⟩
              refine ⟨congrArg Value.bool ?_, hS.bare⟩
              unfold msgok
              simp_all <;> omega
          · skip
            refine O_skip rfl rfl ?_
            refine O_skip rfl rfl ?_
            refine O_skip rfl rfl ?_
            refine O_skip rfl rfl ?_
            first | refine O_pick_true rfl rfl rfl rfl ?_ | refine O_pick_false rfl rfl rfl rfl ?_
            refine O_move rfl rfl rfl ?_
            refine O_know 32 (.bool false) rfl (congrArg Value.bool (rfl)) ?_
            refine O_skip rfl rfl ?_
            refine O_skip rfl rfl ?_
            refine O_skip rfl rfl ?_
            refine O_skip rfl rfl ?_
            first | refine O_pick_true rfl rfl rfl rfl ?_ | refine O_pick_false rfl rfl rfl rfl ?_
            refine O_move rfl rfl rfl ?_
            refine O_know 38 (.bool false) rfl (congrArg Value.bool (rfl)) ?_
            refine O_skip rfl rfl ?_
            refine O_skip rfl rfl ?_
            refine O_skip rfl rfl ?_
            refine O_skip rfl rfl ?_
            first | refine O_pick_true rfl rfl rfl rfl ?_ | refine O_pick_false rfl rfl rfl rfl ?_
            refine O_assign rfl rfl rfl ?_
            refine O_end ?_
            refine W_ret ⟨_, rfl, ?_⟩
            refine ⟨congrArg Value.bool ?_, hS.bare⟩
            unfold msgok
            simp_all <;> omega
        · skip
          refine O_skip rfl rfl ?_
          refine O_skip rfl rfl ?_
          refine O_skip rfl rfl ?_
          first | refine O_pick_true rfl rfl rfl rfl ?_ | refine O_pick_false rfl rfl rfl rfl ?_
          refine O_move rfl rfl rfl ?_
          refine O_know 26 (.bool false) rfl (congrArg Value.bool (rfl)) ?_
          refine O_skip rfl rfl ?_
          refine O_skip rfl rfl ?_
          refine O_skip rfl rfl ?_
          refine O_skip rfl rfl ?_
          first | refine O_pick_true rfl rfl rfl rfl ?_ | refine O_pick_false rfl rfl rfl rfl ?_
          refine O_move rfl rfl rfl ?_
          refine O_know 32 (.bool false) rfl (congrArg Value.bool (rfl)) ?_
          refine O_skip rfl rfl ?_
          refine O_skip rfl rfl ?_
          refine O_skip rfl rfl ?_
          refine O_skip rfl rfl ?_
          first | refine O_pick_true rfl rfl rfl rfl ?_ | refine O_pick_false rfl rfl rfl rfl ?_
          refine O_move rfl rfl rfl ?_
          refine O_know 38 (.bool false) rfl (congrArg Value.bool (rfl)) ?_
          refine O_skip rfl rfl ?_
          refine O_skip rfl rfl ?_
          refine O_skip rfl rfl ?_
          refine O_skip rfl rfl ?_
          first | refine O_pick_true rfl rfl rfl rfl ?_ | refine O_pick_false rfl rfl rfl rfl ?_
          refine O_assign rfl rfl rfl ?_
          refine O_end ?_
          refine W_ret ⟨_, rfl, ?_⟩
          refine ⟨congrArg Value.bool ?_, hS.bare⟩
          unfold msgok
          simp_all <;> omega
      · skip
        refine O_skip rfl rfl ?_
        refine O_skip rfl rfl ?_
        refine O_skip rfl rfl ?_
        first | refine O_pick_true rfl rfl rfl rfl ?_ | refine O_pick_false rfl rfl rfl rfl ?_
        refine O_move rfl rfl rfl ?_
        refine O_know 21 (.bool false) rfl (congrArg Value.bool (rfl)) ?_
        refine O_skip rfl rfl ?_
        refine O_skip rfl rfl ?_
        refine O_skip rfl rfl ?_
        first | refine O_pick_true rfl rfl rfl rfl ?_ | refine O_pick_false rfl rfl rfl rfl ?_
        refine O_move rfl rfl rfl ?_
        refine O_know 26 (.bool false) rfl (congrArg Value.bool (rfl)) ?_
        refine O_skip rfl rfl ?_
        refine O_skip rfl rfl ?_
        refine O_skip rfl rfl ?_
        refine O_skip rfl rfl ?_
        first | refine O_pick_true rfl rfl rfl rfl ?_ | refine O_pick_false rfl rfl rfl rfl ?_
        refine O_move rfl rfl rfl ?_
        refine O_know 32 (.bool false) rfl (congrArg Value.bool (rfl)) ?_
        refine O_skip rfl rfl ?_
        refine O_skip rfl rfl ?_
        refine O_skip rfl rfl ?_
        refine O_skip rfl rfl ?_
        first | refine O_pick_true rfl rfl rfl rfl ?_ | refine O_pick_false rfl rfl rfl rfl ?_
        refine O_move rfl rfl rfl ?_
        refine O_know 38 (.bool false) rfl (congrArg Value.bool (rfl)) ?_
        refine O_skip rfl rfl ?_
        refine O_skip rfl rfl ?_
        refine O_skip rfl rfl ?_
        refine O_skip rfl rfl ?_
        first | refine O_pick_true rfl rfl rfl rfl ?_ | refine O_pick_false rfl rfl rfl rfl ?_
        refine O_assign rfl rfl rfl ?_
        refine O_end ?_
        refine W_ret ⟨_, rfl, ?_⟩
        refine ⟨congrArg Value.bool ?_, hS.bare⟩
        unfold msgok
        simp_all <;> omega
    · skip
      refine O_skip rfl rfl ?_
      refine O_skip rfl rfl ?_
      refine O_skip rfl rfl ?_
      first | refine O_pick_true rfl rfl rfl rfl ?_ | refine O_pick_false rfl rfl rfl rfl ?_
      refine O_move rfl rfl rfl ?_
      refine O_know 16 (.bool false) rfl (congrArg Value.bool (rfl)) ?_
      refine O_skip rfl rfl ?_
      refine O_skip rfl rfl ?_
      refine O_skip rfl rfl ?_
      first | refine O_pick_true rfl rfl rfl rfl ?_ | refine O_pick_false rfl rfl rfl rfl ?_
      refine O_move rfl rfl rfl ?_
      refine O_know 21 (.bool false) rfl (congrArg Value.bool (rfl)) ?_
      refine O_skip rfl rfl ?_
      refine O_skip rfl rfl ?_
      refine O_skip rfl rfl ?_
      first | refine O_pick_true rfl rfl rfl rfl ?_ | refine O_pick_false rfl rfl rfl rfl ?_
      refine O_move rfl rfl rfl ?_
      refine O_know 26 (.bool false) rfl (congrArg Value.bool (rfl)) ?_
      refine O_skip rfl rfl ?_
      refine O_skip rfl rfl ?_
      refine O_skip rfl rfl ?_
      refine O_skip rfl rfl ?_
      first | refine O_pick_true rfl rfl rfl rfl ?_ | refine O_pick_false rfl rfl rfl rfl ?_
      refine O_move rfl rfl rfl ?_
      refine O_know 32 (.bool false) rfl (congrArg Value.bool (rfl)) ?_
      refine O_skip rfl rfl ?_
      refine O_skip rfl rfl ?_
      refine O_skip rfl rfl ?_
      refine O_skip rfl rfl ?_
      first | refine O_pick_true rfl rfl rfl rfl ?_ | refine O_pick_false rfl rfl rfl rfl ?_
      refine O_move rfl rfl rfl ?_
      refine O_know 38 (.bool false) rfl (congrArg Value.bool (rfl)) ?_
      refine O_skip rfl rfl ?_
      refine O_skip rfl rfl ?_
      refine O_skip rfl rfl ?_
      refine O_skip rfl rfl ?_
      first | refine O_pick_true rfl rfl rfl rfl ?_ | refine O_pick_false rfl rfl rfl rfl ?_
      refine O_assign rfl rfl rfl ?_
      refine O_end ?_
      refine W_ret ⟨_, rfl, ?_⟩
      refine ⟨congrArg Value.bool ?_, hS.bare⟩
      unfold msgok
      simp_all <;> omega
  · skip
    refine O_skip rfl rfl ?_
    refine O_skip rfl rfl ?_
    refine O_skip rfl rfl ?_
    first | refine O_pick_true rfl rfl rfl rfl ?_ | refine O_pick_false rfl rfl rfl rfl ?_
    refine O_move rfl rfl rfl ?_
    refine O_know 11 (.bool false) rfl (congrArg Value.bool (rfl)) ?_
    refine O_skip rfl rfl ?_
    refine O_skip rfl rfl ?_
    refine O_skip rfl rfl ?_
    first | refine O_pick_true rfl rfl rfl rfl ?_ | refine O_pick_false rfl rfl rfl rfl ?_
    refine O_move rfl rfl rfl ?_
    refine O_know 16 (.bool false) rfl (congrArg Value.bool (rfl)) ?_
    refine O_skip rfl rfl ?_
    refine O_skip rfl rfl ?_
    refine O_skip rfl rfl ?_
    first | refine O_pick_true rfl rfl rfl rfl ?_ | refine O_pick_false rfl rfl rfl rfl ?_
    refine O_move rfl rfl rfl ?_
    refine O_know 21 (.bool false) rfl (congrArg Value.bool (rfl)) ?_
    refine O_skip rfl rfl ?_
    refine O_skip rfl rfl ?_
    refine O_skip rfl rfl ?_
    first | refine O_pick_true rfl rfl rfl rfl ?_ | refine O_pick_false rfl rfl rfl rfl ?_
    refine O_move rfl rfl rfl ?_
    refine O_know 26 (.bool false) rfl (congrArg Value.bool (rfl)) ?_
    refine O_skip rfl rfl ?_
    refine O_skip rfl rfl ?_
    refine O_skip rfl rfl ?_
    refine O_skip rfl rfl ?_
    first | refine O_pick_true rfl rfl rfl rfl ?_ | refine O_pick_false rfl rfl rfl rfl ?_
    refine O_move rfl rfl rfl ?_
    refine O_know 32 (.bool false) rfl (congrArg Value.bool (rfl)) ?_
    refine O_skip rfl rfl ?_
    refine O_skip rfl rfl ?_
    refine O_skip rfl rfl ?_
    refine O_skip rfl rfl ?_
    first | refine O_pick_true rfl rfl rfl rfl ?_ | refine O_pick_false rfl rfl rfl rfl ?_
    refine O_move rfl rfl rfl ?_
    refine O_know 38 (.bool false) rfl (congrArg Value.bool (rfl)) ?_
    refine O_skip rfl rfl ?_
    refine O_skip rfl rfl ?_
    refine O_skip rfl rfl ?_
    refine O_skip rfl rfl ?_
    first | refine O_pick_true rfl rfl rfl rfl ?_ | refine O_pick_false rfl rfl rfl rfl ?_
    refine O_assign rfl rfl rfl ?_
    refine O_end ?_
    refine W_ret ⟨_, rfl, ?_⟩
    refine ⟨congrArg Value.bool ?_, hS.bare⟩
    unfold msgok
    simp_all <;> omega

set_option maxHeartbeats 800000 in
theorem IsMsg_spec {w0 : World} {m : Mg} (hm : m.ok w0) : Calls Try.prog 13 #[.agg m.cs.toArray] w0 (Ret fun r w => r = .bool (msgok m) ∧ St w0 [] [] w) := by
  have hS : Own [] w0 := St.start w0
  refine calls_enter (l := [.agg m.cs.toArray]) Try.func13 rfl Try.ntmps13 Try.results13 (Nat.le_of_ble_eq_true rfl) ?_
  refine W_seq ?_
  refine W_region ?_
  refine O_box hS rfl rfl rfl (fun b1 w hS => ?_)
  refine O_assign rfl rfl rfl ?_
  refine O_end ?_
  refine W_seq ?_
  refine W_seq ?_
  refine W_region ?_
  refine O_fieldAddr rfl rfl rfl ?_
  refine O_load rfl rfl rfl rfl (hS.cell m.c0) ?_
  have hcall := in_spec (w0 := w) (n := m.k) (a := 1) (b := 6)
  refine O_call rfl rfl rfl hcall (fun r w ⟨hz, hk⟩ => ?_)
  subst hz
  have hS := hS.after0 hk
  refine O_not rfl rfl rfl ?_
  refine O_move rfl rfl rfl ?_
  refine O_part 8 rfl (fun c8 => ?_) (fun c8 => ?_)
  · skip
    refine O_skip rfl rfl ?_
    refine O_skip rfl rfl ?_
    refine O_skip rfl rfl ?_
    refine O_skip rfl rfl ?_
    first | refine O_pick_true rfl rfl rfl rfl ?_ | refine O_pick_false rfl rfl rfl rfl ?_
    refine O_move rfl rfl rfl ?_
    refine O_know 14 (.bool true) rfl (congrArg Value.bool (rfl)) ?_
    refine O_skip rfl rfl ?_
    refine O_skip rfl rfl ?_
    refine O_skip rfl rfl ?_
    refine O_skip rfl rfl ?_
    first | refine O_pick_true rfl rfl rfl rfl ?_ | refine O_pick_false rfl rfl rfl rfl ?_
    refine O_move rfl rfl rfl ?_
    refine O_know 20 (.bool true) rfl (congrArg Value.bool (rfl)) ?_
    refine O_skip rfl rfl ?_
    refine O_skip rfl rfl ?_
    refine O_skip rfl rfl ?_
    refine O_skip rfl rfl ?_
    first | refine O_pick_true rfl rfl rfl rfl ?_ | refine O_pick_false rfl rfl rfl rfl ?_
    refine O_move rfl rfl rfl ?_
    refine O_know 26 (.bool true) rfl (congrArg Value.bool (rfl)) ?_
    refine O_skip rfl rfl ?_
    refine O_skip rfl rfl ?_
    refine O_skip rfl rfl ?_
    refine O_skip rfl rfl ?_
    first | refine O_pick_true rfl rfl rfl rfl ?_ | refine O_pick_false rfl rfl rfl rfl ?_
    refine O_move rfl rfl rfl ?_
    refine O_know 32 (.bool true) rfl (congrArg Value.bool (rfl)) ?_
    refine O_skip rfl rfl ?_
    refine O_skip rfl rfl ?_
    refine O_skip rfl rfl ?_
    refine O_skip rfl rfl ?_
    first | refine O_pick_true rfl rfl rfl rfl ?_ | refine O_pick_false rfl rfl rfl rfl ?_
    refine O_move rfl rfl rfl ?_
    refine O_know 38 (.bool true) rfl (congrArg Value.bool (rfl)) ?_
    refine O_skip rfl rfl ?_
    refine O_skip rfl rfl ?_
    refine O_skip rfl rfl ?_
    refine O_skip rfl rfl ?_
    first | refine O_pick_true rfl rfl rfl rfl ?_ | refine O_pick_false rfl rfl rfl rfl ?_
    refine O_end ?_
    refine W_if_true rfl (rfl) ?_
    refine W_seq ?_
    refine W_region ?_
    refine O_assign rfl rfl rfl ?_
    refine O_end ?_
    refine W_ret ⟨_, rfl, ?_⟩
    refine ⟨congrArg Value.bool ?_, hS.bare⟩
    unfold msgok
    simp_all
    try omega
  · skip
    refine O_fieldAddr rfl rfl rfl ?_
    refine O_load rfl rfl rfl rfl (hS.cell m.c1) ?_
    have hcall := in_spec (w0 := w) (n := m.f) (a := 0) (b := 9)
    refine O_call rfl rfl rfl hcall (fun r w ⟨hz, hk⟩ => ?_)
    subst hz
    have hS := hS.after0 hk
    refine O_not rfl rfl rfl ?_
    first | refine O_pick_true rfl rfl rfl rfl ?_ | refine O_pick_false rfl rfl rfl rfl ?_
    refine O_move rfl rfl rfl ?_
    refine O_part 14 rfl (fun c14 => ?_) (fun c14 => ?_)
    · skip
      refine O_skip rfl rfl ?_
      refine O_skip rfl rfl ?_
      refine O_skip rfl rfl ?_
      refine O_skip rfl rfl ?_
      first | refine O_pick_true rfl rfl rfl rfl ?_ | refine O_pick_false rfl rfl rfl rfl ?_
      refine O_move rfl rfl rfl ?_
      refine O_know 20 (.bool true) rfl (congrArg Value.bool (rfl)) ?_
      refine O_skip rfl rfl ?_
      refine O_skip rfl rfl ?_
      refine O_skip rfl rfl ?_
      refine O_skip rfl rfl ?_
      first | refine O_pick_true rfl rfl rfl rfl ?_ | refine O_pick_false rfl rfl rfl rfl ?_
      refine O_move rfl rfl rfl ?_
      refine O_know 26 (.bool true) rfl (congrArg Value.bool (rfl)) ?_
      refine O_skip rfl rfl ?_
      refine O_skip rfl rfl ?_
      refine O_skip rfl rfl ?_
      refine O_skip rfl rfl ?_
      first | refine O_pick_true rfl rfl rfl rfl ?_ | refine O_pick_false rfl rfl rfl rfl ?_
      refine O_move rfl rfl rfl ?_
      refine O_know 32 (.bool true) rfl (congrArg Value.bool (rfl)) ?_
      refine O_skip rfl rfl ?_
      refine O_skip rfl rfl ?_
      refine O_skip rfl rfl ?_
      refine O_skip rfl rfl ?_
      first | refine O_pick_true rfl rfl rfl rfl ?_ | refine O_pick_false rfl rfl rfl rfl ?_
      refine O_move rfl rfl rfl ?_
      refine O_know 38 (.bool true) rfl (congrArg Value.bool (rfl)) ?_
      refine O_skip rfl rfl ?_
      refine O_skip rfl rfl ?_
      refine O_skip rfl rfl ?_
      refine O_skip rfl rfl ?_
      first | refine O_pick_true rfl rfl rfl rfl ?_ | refine O_pick_false rfl rfl rfl rfl ?_
      refine O_end ?_
      refine W_if_true rfl (rfl) ?_
      refine W_seq ?_
      refine W_region ?_
      refine O_assign rfl rfl rfl ?_
      refine O_end ?_
      refine W_ret ⟨_, rfl, ?_⟩
      refine ⟨congrArg Value.bool ?_, hS.bare⟩
      unfold msgok
      simp_all
      try omega
    · skip
      refine O_fieldAddr rfl rfl rfl ?_
      refine O_load rfl rfl rfl rfl (hS.cell m.c2) ?_
      have hcall := in_spec (w0 := w) (n := m.to) (a := 0) (b := 9)
      refine O_call rfl rfl rfl hcall (fun r w ⟨hz, hk⟩ => ?_)
      subst hz
      have hS := hS.after0 hk
      refine O_not rfl rfl rfl ?_
      first | refine O_pick_true rfl rfl rfl rfl ?_ | refine O_pick_false rfl rfl rfl rfl ?_
      refine O_move rfl rfl rfl ?_
      refine O_part 20 rfl (fun c20 => ?_) (fun c20 => ?_)
      · skip
        refine O_skip rfl rfl ?_
        refine O_skip rfl rfl ?_
        refine O_skip rfl rfl ?_
        refine O_skip rfl rfl ?_
        first | refine O_pick_true rfl rfl rfl rfl ?_ | refine O_pick_false rfl rfl rfl rfl ?_
        refine O_move rfl rfl rfl ?_
        refine O_know 26 (.bool true) rfl (congrArg Value.bool (rfl)) ?_
        refine O_skip rfl rfl ?_
        refine O_skip rfl rfl ?_
        refine O_skip rfl rfl ?_
        refine O_skip rfl rfl ?_
        first | refine O_pick_true rfl rfl rfl rfl ?_ | refine O_pick_false rfl rfl rfl rfl ?_
        refine O_move rfl rfl rfl ?_
        refine O_know 32 (.bool true) rfl (congrArg Value.bool (rfl)) ?_
        refine O_skip rfl rfl ?_
        refine O_skip rfl rfl ?_
        refine O_skip rfl rfl ?_
        refine O_skip rfl rfl ?_
        first | refine O_pick_true rfl rfl rfl rfl ?_ | refine O_pick_false rfl rfl rfl rfl ?_
        refine O_move rfl rfl rfl ?_
        refine O_know 38 (.bool true) rfl (congrArg Value.bool (rfl)) ?_
        refine O_skip rfl rfl ?_
        refine O_skip rfl rfl ?_
        refine O_skip rfl rfl ?_
        refine O_skip rfl rfl ?_
        first | refine O_pick_true rfl rfl rfl rfl ?_ | refine O_pick_false rfl rfl rfl rfl ?_
        refine O_end ?_
        refine W_if_true rfl (rfl) ?_
        refine W_seq ?_
        refine W_region ?_
        refine O_assign rfl rfl rfl ?_
        refine O_end ?_
        refine W_ret ⟨_, rfl, ?_⟩
        refine ⟨congrArg Value.bool ?_, hS.bare⟩
        unfold msgok
        simp_all
        try omega
      · skip
        refine O_fieldAddr rfl rfl rfl ?_
        refine O_load rfl rfl rfl rfl (hS.cell m.c3) ?_
        have hcall := in_spec (w0 := w) (n := m.s) (a := 0) (b := 63)
        refine O_call rfl rfl rfl hcall (fun r w ⟨hz, hk⟩ => ?_)
        subst hz
        have hS := hS.after0 hk
        refine O_not rfl rfl rfl ?_
        first | refine O_pick_true rfl rfl rfl rfl ?_ | refine O_pick_false rfl rfl rfl rfl ?_
        refine O_move rfl rfl rfl ?_
        refine O_part 26 rfl (fun c26 => ?_) (fun c26 => ?_)
        · skip
          refine O_skip rfl rfl ?_
          refine O_skip rfl rfl ?_
          refine O_skip rfl rfl ?_
          refine O_skip rfl rfl ?_
          first | refine O_pick_true rfl rfl rfl rfl ?_ | refine O_pick_false rfl rfl rfl rfl ?_
          refine O_move rfl rfl rfl ?_
          refine O_know 32 (.bool true) rfl (congrArg Value.bool (rfl)) ?_
          refine O_skip rfl rfl ?_
          refine O_skip rfl rfl ?_
          refine O_skip rfl rfl ?_
          refine O_skip rfl rfl ?_
          first | refine O_pick_true rfl rfl rfl rfl ?_ | refine O_pick_false rfl rfl rfl rfl ?_
          refine O_move rfl rfl rfl ?_
          refine O_know 38 (.bool true) rfl (congrArg Value.bool (rfl)) ?_
          refine O_skip rfl rfl ?_
          refine O_skip rfl rfl ?_
          refine O_skip rfl rfl ?_
          refine O_skip rfl rfl ?_
          first | refine O_pick_true rfl rfl rfl rfl ?_ | refine O_pick_false rfl rfl rfl rfl ?_
          refine O_end ?_
          refine W_if_true rfl (rfl) ?_
          refine W_seq ?_
          refine W_region ?_
          refine O_assign rfl rfl rfl ?_
          refine O_end ?_
          refine W_ret ⟨_, rfl, ?_⟩
          refine ⟨congrArg Value.bool ?_, hS.bare⟩
          unfold msgok
          simp_all
          try omega
        · skip
          refine O_fieldAddr rfl rfl rfl ?_
          refine O_load rfl rfl rfl rfl (hS.cell m.c4) ?_
          have hcall := in_spec (w0 := w) (n := m.v) (a := 0) (b := 8)
          refine O_call rfl rfl rfl hcall (fun r w ⟨hz, hk⟩ => ?_)
          subst hz
          have hS := hS.after0 hk
          refine O_not rfl rfl rfl ?_
          first | refine O_pick_true rfl rfl rfl rfl ?_ | refine O_pick_false rfl rfl rfl rfl ?_
          refine O_move rfl rfl rfl ?_
          refine O_part 32 rfl (fun c32 => ?_) (fun c32 => ?_)
          · skip
            refine O_skip rfl rfl ?_
            refine O_skip rfl rfl ?_
            refine O_skip rfl rfl ?_
            refine O_skip rfl rfl ?_
            first | refine O_pick_true rfl rfl rfl rfl ?_ | refine O_pick_false rfl rfl rfl rfl ?_
            refine O_move rfl rfl rfl ?_
            refine O_know 38 (.bool true) rfl (congrArg Value.bool (rfl)) ?_
            refine O_skip rfl rfl ?_
            refine O_skip rfl rfl ?_
            refine O_skip rfl rfl ?_
            refine O_skip rfl rfl ?_
            first | refine O_pick_true rfl rfl rfl rfl ?_ | refine O_pick_false rfl rfl rfl rfl ?_
            refine O_end ?_
            refine W_if_true rfl (rfl) ?_
            refine W_seq ?_
            refine W_region ?_
            refine O_assign rfl rfl rfl ?_
            refine O_end ?_
            refine W_ret ⟨_, rfl, ?_⟩
            refine ⟨congrArg Value.bool ?_, hS.bare⟩
            unfold msgok
            simp_all
            try omega
          · skip
            refine O_fieldAddr rfl rfl rfl ?_
            refine O_load rfl rfl rfl rfl (hS.cell m.c5) ?_
            refine O_len rfl rfl rfl rfl ?_
            refine O_bin rfl rfl rfl rfl rfl ?_
            first | refine O_pick_true rfl rfl rfl rfl ?_ | refine O_pick_false rfl rfl rfl rfl ?_
            refine O_move rfl rfl rfl ?_
            refine O_part 38 rfl (fun c38 => ?_) (fun c38 => ?_)
            · skip
              refine O_skip rfl rfl ?_
              refine O_skip rfl rfl ?_
              refine O_skip rfl rfl ?_
              refine O_skip rfl rfl ?_
              first | refine O_pick_true rfl rfl rfl rfl ?_ | refine O_pick_false rfl rfl rfl rfl ?_
              refine O_end ?_
              refine W_if_true rfl (rfl) ?_
              refine W_seq ?_
              refine W_region ?_
              refine O_assign rfl rfl rfl ?_
              refine O_end ?_
              refine W_ret ⟨_, rfl, ?_⟩
              refine ⟨congrArg Value.bool ?_, hS.bare⟩
              unfold msgok
              simp_all
              try omega
            · skip
              refine O_fieldAddr rfl rfl rfl ?_
              refine O_load rfl rfl rfl rfl (hS.cell m.c6) ?_
              refine O_len rfl rfl rfl rfl ?_
              refine O_bin rfl rfl rfl rfl rfl ?_
              first | refine O_pick_true rfl rfl rfl rfl ?_ | refine O_pick_false rfl rfl rfl rfl ?_
              refine O_end ?_
              refine W_if rfl (fun c43 => ?_) (fun c43 => ?_)
              · skip
                refine W_seq ?_
                refine W_region ?_
                refine O_assign rfl rfl rfl ?_
                refine O_end ?_
                refine W_ret ⟨_, rfl, ?_⟩
                refine ⟨congrArg Value.bool ?_, hS.bare⟩
                unfold msgok
                simp_all
                try omega
              · skip
                refine W_skip ?_
                refine W_seq ?_
                refine W_seq ?_
                refine W_region ?_
                have hml : m.l.length ≤ 10 := by have := of_decide_eq_false c43; omega
                refine O_assign rfl rfl rfl ?_
                refine O_end ?_
                refine W_block ?_
                refine W_loop (ι := Nat) (fun i => [(1, .pointer (some ⟨b1, 0, none⟩)), (3, .int .i64 (i : Nat))])
                    (fun i w => i ≤ m.l.length ∧ (m.l.take i).all voteok = true ∧ St w0 [] [mcell b1 m] w) (fun i => m.l.length - i) 0 ⟨rfl, rfl, trivial⟩ ⟨Nat.zero_le _, rfl, hS⟩ ?_
                rintro i w ⟨hi, hall, hS⟩
                refine W_seq ?_
                refine W_seq ?_
                refine W_region ?_
                refine O_move rfl rfl rfl ?_
                refine O_fieldAddr rfl rfl rfl ?_
                refine O_load rfl rfl rfl rfl (hS.cell m.c6) ?_
                refine O_len rfl rfl rfl rfl ?_
                refine O_bin rfl rfl rfl rfl rfl ?_
                refine O_end ?_
                refine W_if rfl (fun c48 => ?_) (fun c48 => ?_)
                · skip
                  refine W_skip ?_
                  refine W_seq ?_
                  refine W_block ?_
                  refine W_seq ?_
                  refine W_region ?_
                  refine O_fieldAddr rfl rfl rfl ?_
                  refine O_load rfl rfl rfl rfl (hS.cell m.c6) ?_
                  refine O_move rfl rfl rfl ?_
                  have hlt : i < m.l.length := by have := of_decide_eq_true c48; omega
                  have hxi := hm.votes m.l[i] (List.getElem_mem hlt)
                  have hrw := (hm.st hS).l
                  refine O_indexRd rfl rfl rfl rfl hrw (v := iv m.l[i].k) (votes_first m.l hm.votes i hlt) hlt (fun ad hA hc => ?_)
                  refine O_loadAgg rfl rfl rfl rfl (m.l[i].len hxi) (votes_rd (hA ▸ hrw) hm.votes i hlt) ?_
                  have hcall := IsVote_spec (w0 := w) hxi
                  refine O_call rfl rfl rfl hcall (fun r w ⟨hz, hk⟩ => ?_)
                  subst hz
                  have hS := hS.after0 hk
                  refine O_not rfl rfl rfl ?_
                  refine O_end ?_
                  refine W_if rfl (fun c57 => ?_) (fun c57 => ?_)
                  · skip
                    refine W_seq ?_
                    refine W_region ?_
                    refine O_assign rfl rfl rfl ?_
                    refine O_end ?_
                    refine W_ret ⟨_, rfl, ?_⟩
                    have h1 : voteok m.l[i] = false := by simpa using c57
                    have h2 := all_stop m.l i hlt h1
                    refine ⟨congrArg Value.bool ?_, hS.bare⟩
                    unfold msgok
                    rw [h2]
                    simp
                  · skip
                    refine W_skip ?_
                    refine W_region ?_
                    refine O_move rfl rfl rfl ?_
                    refine O_bin rfl rfl rfl rfl (i64_succ i (by omega)) ?_
                    refine O_assign rfl rfl rfl ?_
                    refine O_end ?_
                    refine ⟨i + 1, ⟨rfl, rfl, trivial⟩, ⟨hlt, ?_, hS⟩, by omega⟩
                    have h1 : voteok m.l[i] = true := by simpa using c57
                    rw [all_snoc m.l i hlt, hall, h1]
                    rfl
                · skip
                  refine W_exit ?_
                  refine W_seq ?_
                  refine W_region ?_
                  refine O_assign rfl rfl rfl ?_
                  refine O_end ?_
                  refine W_ret ⟨_, rfl, ?_⟩
                  have hi' : i = m.l.length := by have := of_decide_eq_false c48; omega
                  rw [hi', List.take_length] at hall
                  refine ⟨congrArg Value.bool ?_, hS.bare⟩
                  unfold msgok
                  simp_all
                  try omega

end Go.Proofs.Ytaglgnjamihdnaa.R
