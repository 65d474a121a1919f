/- Two messages that may be, and are unlike in what is sealed, have unlike bodies; two votes, too: the law's walk. -/
import Derived.Test.YtaglgnjamihdnaaWh
import Derived.Test.YtaglgnjamihdnaaWg
namespace Go.Proofs.Ytaglgnjamihdnaa.R
open Go Go.RowKit Go.Proofs
set_option linter.unusedVariables false
set_option linter.unusedSimpArgs false
set_option maxRecDepth 20000

theorem eq_vote (x y : Vt) (hx : x.ok) (hy : y.ok) (w : World) : (Op.equalIn 10000 29 (.agg x.cs.toArray) (.agg y.cs.toArray)).run Try.prog w = .ok (decide (x = y)) w := by
  have hu : Try.prog.underlying 3 = some (.int .i64) := (inferInstance : Und Try.prog 3 (.int .i64)).h
  rw [run_equalIn_agg w 9999 29 _ _ (by kernel_rfl) (by kernel_rfl)]
  have h : ((x.k == y.k) && ((x.s == y.s) && ((x.v == y.v) && ((x.sum == y.sum) && ((x.f == y.f) && ((x.tag == y.tag) && true)))))) = decide (x = y) := by
    rw [Bool.eq_iff_iff]
    cases x
    cases y
    simp
  rw [← h]
  exact eqFields_int (by decide) hu x.c0 y.c0 (eqFields_int (by decide) hu x.c1 y.c1 (eqFields_int (by decide) hu x.c2 y.c2
    (eqFields_step (by decide) (part_hash (ext_sum x hx) w) (part_hash (ext_sum y hy) w) (eq_hash x.sum y.sum hx.1 hy.1 9997 w) (eqFields_int (by decide) hu (x.c35 hx) (y.c35 hy)
      (eqFields_step (by decide) (part_hash (ext_tag x hx) w) (part_hash (ext_tag y hy) w) (eq_hash x.tag y.tag hx.2 hy.2 9997 w) eqFields_nil)))))
def samemsg (m n : Mg) : Bool := (m.k == n.k) && ((m.f == n.f) && ((m.to == n.to) && ((m.s == n.s) && ((m.v == n.v) && (decide (m.x = n.x) && (decide (m.l = n.l) && (m.tag == n.tag)))))))
theorem take_succ_eq (l m : List Vt) (i : Nat) (h1 : i < l.length) (h2 : i < m.length) (h : l.take i = m.take i) (he : l[i] = m[i]) : l.take (i + 1) = m.take (i + 1) := by
  rw [List.take_succ_eq_append_getElem h1, List.take_succ_eq_append_getElem h2, h, he]

set_option maxHeartbeats 400000 in
theorem Votes_spec {w0 : World} {B C : Option Addr} {l m : List Vt} {d e : Nat} (hr : Rd w0 B (l.flatMap Vt.cs)) (hr2 : Rd w0 C (m.flatMap Vt.cs)) (hx : ∀ x ∈ l, x.ok) (hy : ∀ x ∈ m, x.ok) (hl : l.length ≤ 1000000) :
    Calls Try.prog 31 #[.slice B l.length d, .slice C m.length e] w0 (Ret fun r w => r = .bool (decide (l = m)) ∧ St w0 [] [] w) := by
  have hS : Own [] w0 := St.start w0
  refine calls_enter (l := [.slice B l.length d, .slice C m.length e]) Try.func31 rfl Try.ntmps31 Try.results31 (Nat.le_of_ble_eq_true rfl) ?_
  refine W_seq ?_
  refine W_region ?_
  refine O_assign rfl rfl rfl ?_
  refine O_end ?_
  refine W_seq ?_
  refine W_seq ?_
  refine W_region ?_
  refine O_move rfl rfl rfl ?_
  refine O_len rfl rfl rfl rfl ?_
  refine O_move rfl rfl rfl ?_
  refine O_len rfl rfl rfl rfl ?_
  refine O_bin rfl rfl rfl rfl rfl ?_
  refine O_end ?_
  refine W_if rfl (fun c10 => ?_) (fun c10 => ?_)
  · skip
    refine W_seq ?_
    refine W_region ?_
    refine O_assign rfl rfl rfl ?_
    refine O_end ?_
    refine W_ret ⟨_, rfl, ?_⟩
    refine ⟨congrArg Value.bool ?_, hS.bare⟩
    symm
    rw [decide_eq_false_iff_not]
    rintro rfl
    simp at c10
  · skip
    refine W_skip ?_
    refine W_seq ?_
    refine W_seq ?_
    refine W_region ?_
    refine O_assign rfl rfl rfl ?_
    refine O_end ?_
    refine W_block ?_
    have hlm : l.length = m.length := by have := beq_of_bne c10; omega
    refine W_loop (ι := Nat) (fun i => [(0, .slice B l.length d), (1, .slice C m.length e), (5, .int .i64 (i : Nat))])
        (fun i w => i ≤ l.length ∧ l.take i = m.take i ∧ ∃ Gs, St w0 [] Gs w) (fun i => l.length - i) 0 ⟨rfl, rfl, rfl, trivial⟩ ⟨Nat.zero_le _, rfl, _, hS⟩ ?_
    rintro i w ⟨hi, htk, _, hS⟩
    refine W_seq ?_
    refine W_seq ?_
    refine W_region ?_
    refine O_move rfl rfl rfl ?_
    refine O_move rfl rfl rfl ?_
    refine O_len rfl rfl rfl rfl ?_
    refine O_bin rfl rfl rfl rfl rfl ?_
    refine O_end ?_
    refine W_if rfl (fun c14 => ?_) (fun c14 => ?_)
    · skip
      refine W_skip ?_
      refine W_seq ?_
      refine W_block ?_
      refine W_seq ?_
      have hlt : i < l.length := by have := of_decide_eq_true c14; omega
      have hlt2 : i < m.length := by omega
      have hxi := hx l[i] (List.getElem_mem hlt)
      have hyi := hy m[i] (List.getElem_mem hlt2)
      obtain ⟨ad, rfl, _⟩ := hr _ _ (votes_first l hx i hlt)
      obtain ⟨ae, rfl, _⟩ := hr2 _ _ (votes_first m hy i hlt2)
      refine W_drawn (fun w => ∃ Gs, St w0 [] Gs w) ?_
      have hS := hS.drew
      refine OA_take 0 rfl (by kernel_rfl) (by kernel_rfl) (by kernel_rfl) rfl rfl ⟨_, hS⟩ (fun w ⟨_, hS⟩ => E_move rfl) ?_
      refine OA_take 1 rfl (by kernel_rfl) (by kernel_rfl) (by kernel_rfl) rfl rfl ⟨_, hS⟩ (fun w ⟨_, hS⟩ => E_move rfl) ?_
      refine OA_take 2 rfl (by kernel_rfl) (by kernel_rfl) (by kernel_rfl) rfl rfl ⟨_, hS⟩ (fun w ⟨_, hS⟩ => E_indexAddr rfl rfl (by omega) (by omega)) ?_
      refine OA_take 3 rfl (by kernel_rfl) (by kernel_rfl) (by kernel_rfl) rfl rfl ⟨_, hS⟩ (fun w ⟨_, hS⟩ => E_loadAgg (vs := l[i].cs) rfl rfl (l[i].len hxi) (votes_rd (hS.rd hr (Apart.of_nil _ _)) hx i hlt)) ?_
      refine OA_take 4 rfl (by kernel_rfl) (by kernel_rfl) (by kernel_rfl) rfl rfl ⟨_, hS⟩ (fun w ⟨_, hS⟩ => E_move rfl) ?_
      refine OA_take 5 rfl (by kernel_rfl) (by kernel_rfl) (by kernel_rfl) rfl rfl ⟨_, hS⟩ (fun w ⟨_, hS⟩ => E_move rfl) ?_
      refine OA_take 6 rfl (by kernel_rfl) (by kernel_rfl) (by kernel_rfl) rfl rfl ⟨_, hS⟩ (fun w ⟨_, hS⟩ => E_indexAddr rfl rfl (by omega) (by omega)) ?_
      refine OA_take 7 rfl (by kernel_rfl) (by kernel_rfl) (by kernel_rfl) rfl rfl ⟨_, hS⟩ (fun w ⟨_, hS⟩ => E_loadAgg (vs := m[i].cs) rfl rfl (m[i].len hyi) (votes_rd (hS.rd hr2 (Apart.of_nil _ _)) hy i hlt2)) ?_
      refine OA_one 8 rfl (by kernel_rfl) ?_
      refine O_neq_agg rfl rfl rfl rfl (by kernel_rfl) (fun w => eq_vote l[i] m[i] hxi hyi w) ?_
      refine O_end ⟨⟨_, hS⟩, ?_⟩
      refine OA_end (by kernel_rfl) ?_
      refine W_if rfl (fun c25 => ?_) (fun c25 => ?_)
      · skip
        refine W_seq ?_
        refine W_region ?_
        refine O_assign rfl rfl rfl ?_
        refine O_end ?_
        refine W_ret ⟨_, rfl, ?_⟩
        refine ⟨congrArg Value.bool ?_, hS.bare⟩
        symm
        rw [decide_eq_false_iff_not]
        rintro rfl
        simp at c25
      · skip
        refine W_skip ?_
        refine W_region ?_
        refine O_move rfl rfl rfl ?_
        refine O_bin rfl rfl rfl rfl (i64_succ i (by omega)) ?_
        refine O_assign rfl rfl rfl ?_
        refine O_end ?_
        refine ⟨i + 1, ⟨rfl, rfl, rfl, trivial⟩, ⟨hlt, ?_, _, hS⟩, by omega⟩
        exact take_succ_eq l m i hlt hlt2 htk (by simpa using c25)
    · skip
      refine W_exit ?_
      refine W_seq ?_
      refine W_region ?_
      refine O_assign rfl rfl rfl ?_
      refine O_end ?_
      refine W_ret ⟨_, rfl, ?_⟩
      have hi' : i = l.length := by have := of_decide_eq_false c14; omega
      rw [hi', List.take_length, hlm, List.take_length] at htk
      exact ⟨congrArg Value.bool (decide_eq_true htk).symm, hS.bare⟩

set_option maxHeartbeats 800000 in
theorem sameMsg_spec {w0 : World} {m n : Mg} (hm : m.ok w0) (hn : n.ok w0) (hl : m.l.length ≤ 1000000) : Calls Try.prog 15 #[.agg m.cs.toArray, .agg n.cs.toArray] w0 (Ret fun r w => r = .bool (samemsg m n) ∧ St w0 [] [] w) := by
  have hS : Own [] w0 := St.start w0
  refine calls_enter (l := [.agg m.cs.toArray, .agg n.cs.toArray]) Try.func15 rfl Try.ntmps15 Try.results15 (Nat.le_of_ble_eq_true rfl) ?_
  refine W_seq ?_
  refine W_region ?_
  refine O_box hS rfl rfl rfl (fun b2 w hS => ?_)
  refine O_box hS rfl rfl rfl (fun b3 w hS => ?_)
  refine O_assign rfl rfl rfl ?_
  refine O_end ?_
  refine W_seq ?_
  refine W_region ?_
  refine O_fieldAddr rfl rfl rfl ?_
  refine O_load rfl rfl rfl rfl (hS.f1.cell m.c0) ?_
  refine O_fieldAddr rfl rfl rfl ?_
  refine O_load rfl rfl rfl rfl (hS.cell n.c0) ?_
  refine O_bin rfl rfl rfl rfl rfl ?_
  refine O_move rfl rfl rfl ?_
  refine O_part 10 rfl (fun c10 => ?_) (fun c10 => ?_)
  · skip
    refine O_fieldAddr rfl rfl rfl ?_
    refine O_load rfl rfl rfl rfl (hS.f1.cell m.c1) ?_
    refine O_fieldAddr rfl rfl rfl ?_
    refine O_load rfl rfl rfl rfl (hS.cell n.c1) ?_
    refine O_bin rfl rfl rfl rfl rfl ?_
    first | refine O_pick_true rfl rfl rfl rfl ?_ | refine O_pick_false rfl rfl rfl rfl ?_
    refine O_move rfl rfl rfl ?_
    refine O_part 17 rfl (fun c17 => ?_) (fun c17 => ?_)
    · skip
      refine O_fieldAddr rfl rfl rfl ?_
      refine O_load rfl rfl rfl rfl (hS.f1.cell m.c2) ?_
      refine O_fieldAddr rfl rfl rfl ?_
      refine O_load rfl rfl rfl rfl (hS.cell n.c2) ?_
      refine O_bin rfl rfl rfl rfl rfl ?_
      first | refine O_pick_true rfl rfl rfl rfl ?_ | refine O_pick_false rfl rfl rfl rfl ?_
      refine O_move rfl rfl rfl ?_
      refine O_part 24 rfl (fun c24 => ?_) (fun c24 => ?_)
      · skip
        refine O_fieldAddr rfl rfl rfl ?_
        refine O_load rfl rfl rfl rfl (hS.f1.cell m.c3) ?_
        refine O_fieldAddr rfl rfl rfl ?_
        refine O_load rfl rfl rfl rfl (hS.cell n.c3) ?_
        refine O_bin rfl rfl rfl rfl rfl ?_
        first | refine O_pick_true rfl rfl rfl rfl ?_ | refine O_pick_false rfl rfl rfl rfl ?_
        refine O_move rfl rfl rfl ?_
        refine O_part 31 rfl (fun c31 => ?_) (fun c31 => ?_)
        · skip
          refine O_fieldAddr rfl rfl rfl ?_
          refine O_load rfl rfl rfl rfl (hS.f1.cell m.c4) ?_
          refine O_fieldAddr rfl rfl rfl ?_
          refine O_load rfl rfl rfl rfl (hS.cell n.c4) ?_
          refine O_bin rfl rfl rfl rfl rfl ?_
          first | refine O_pick_true rfl rfl rfl rfl ?_ | refine O_pick_false rfl rfl rfl rfl ?_
          refine O_move rfl rfl rfl ?_
          refine O_part 38 rfl (fun c38 => ?_) (fun c38 => ?_)
          · skip
            refine O_fieldAddr rfl rfl rfl ?_
            refine O_load rfl rfl rfl rfl (hS.f1.cell m.c5) ?_
            refine O_str rfl rfl rfl (hm.st hS).x ?_
            refine O_fieldAddr rfl rfl rfl ?_
            refine O_load rfl rfl rfl rfl (hS.cell n.c5) ?_
            refine O_str rfl rfl rfl (hn.st hS).x ?_
            refine O_eql_str rfl rfl rfl rfl ?_
            refine O_know 45 (.bool (decide (m.x = n.x))) rfl (congrArg Value.bool (strOf_eq _ _)) ?_
            first | refine O_pick_true rfl rfl rfl rfl ?_ | refine O_pick_false rfl rfl rfl rfl ?_
            refine O_move rfl rfl rfl ?_
            refine O_part 47 rfl (fun c47 => ?_) (fun c47 => ?_)
            · skip
              refine O_fieldAddr rfl rfl rfl ?_
              refine O_load rfl rfl rfl rfl (hS.f1.cell m.c6) ?_
              refine O_fieldAddr rfl rfl rfl ?_
              refine O_load rfl rfl rfl rfl (hS.cell n.c6) ?_
              have hcall := Votes_spec (d := m.d) (e := n.d) (hm.st hS).l (hn.st hS).l hm.votes hn.votes hl
              refine O_call rfl rfl rfl hcall (fun r w ⟨hz, hk⟩ => ?_)
              subst hz
              have hS := hS.after0 hk
              first | refine O_pick_true rfl rfl rfl rfl ?_ | refine O_pick_false rfl rfl rfl rfl ?_
              refine O_move rfl rfl rfl ?_
              refine O_part 54 rfl (fun c54 => ?_) (fun c54 => ?_)
              · skip
                refine O_fieldAddr rfl rfl rfl ?_
                refine O_loadAgg (vs := bvs m.tag) rfl rfl rfl rfl (by simp [hm.tag]) (hS.f1.rdCells (off := 0 + 7) m.ctag) ?_
                refine O_fieldAddr rfl rfl rfl ?_
                refine O_loadAgg (vs := bvs n.tag) rfl rfl rfl rfl (by simp [hn.tag]) (hS.rdCells (off := 0 + 7) n.ctag) ?_
                refine O_eql_agg rfl rfl rfl rfl (by kernel_rfl) (fun w => eq_hash m.tag n.tag hm.tag hn.tag 9998 w) ?_
                first | refine O_pick_true rfl rfl rfl rfl ?_ | refine O_pick_false rfl rfl rfl rfl ?_
                refine O_assign rfl rfl rfl ?_
                refine O_end ?_
                refine W_ret ⟨_, rfl, ?_⟩
                refine ⟨congrArg Value.bool ?_, hS.bare⟩
                unfold samemsg
                simp_all
              · skip
                refine O_skip rfl rfl ?_
                refine O_skip rfl rfl ?_
                refine O_skip rfl rfl ?_
                refine O_skip rfl rfl ?_
                refine O_skip rfl rfl ?_
                first | refine O_pick_true rfl rfl rfl rfl ?_ | refine O_pick_false rfl rfl rfl rfl ?_
                refine O_assign rfl rfl rfl ?_
                refine O_end ?_
                refine W_ret ⟨_, rfl, ?_⟩
                refine ⟨congrArg Value.bool ?_, hS.bare⟩
                unfold samemsg
                simp_all
            · skip
              refine O_skip rfl rfl ?_
              refine O_skip rfl rfl ?_
              refine O_skip rfl rfl ?_
              refine O_skip rfl rfl ?_
              refine O_skip rfl rfl ?_
              first | refine O_pick_true rfl rfl rfl rfl ?_ | refine O_pick_false rfl rfl rfl rfl ?_
              refine O_move rfl rfl rfl ?_
              refine O_know 54 (.bool false) rfl (congrArg Value.bool (rfl)) ?_
              refine O_skip rfl rfl ?_
              refine O_skip rfl rfl ?_
              refine O_skip rfl rfl ?_
              refine O_skip rfl rfl ?_
              refine O_skip rfl rfl ?_
              first | refine O_pick_true rfl rfl rfl rfl ?_ | refine O_pick_false rfl rfl rfl rfl ?_
              refine O_assign rfl rfl rfl ?_
              refine O_end ?_
              refine W_ret ⟨_, rfl, ?_⟩
              refine ⟨congrArg Value.bool ?_, hS.bare⟩
              unfold samemsg
              simp_all
          · skip
            refine O_skip rfl rfl ?_
            refine O_skip rfl rfl ?_
            refine O_skip rfl rfl ?_
            refine O_skip rfl rfl ?_
            refine O_skip rfl rfl ?_
            refine O_skip rfl rfl ?_
            refine O_skip rfl rfl ?_
            first | refine O_pick_true rfl rfl rfl rfl ?_ | refine O_pick_false rfl rfl rfl rfl ?_
            refine O_move rfl rfl rfl ?_
            refine O_know 47 (.bool false) rfl (congrArg Value.bool (rfl)) ?_
            refine O_skip rfl rfl ?_
            refine O_skip rfl rfl ?_
            refine O_skip rfl rfl ?_
            refine O_skip rfl rfl ?_
            refine O_skip rfl rfl ?_
            first | refine O_pick_true rfl rfl rfl rfl ?_ | refine O_pick_false rfl rfl rfl rfl ?_
            refine O_move rfl rfl rfl ?_
            refine O_know 54 (.bool false) rfl (congrArg Value.bool (rfl)) ?_
            refine O_skip rfl rfl ?_
            refine O_skip rfl rfl ?_
            refine O_skip rfl rfl ?_
            refine O_skip rfl rfl ?_
            refine O_skip rfl rfl ?_
            first | refine O_pick_true rfl rfl rfl rfl ?_ | refine O_pick_false rfl rfl rfl rfl ?_
            refine O_assign rfl rfl rfl ?_
            refine O_end ?_
            refine W_ret ⟨_, rfl, ?_⟩
            refine ⟨congrArg Value.bool ?_, hS.bare⟩
            unfold samemsg
            simp_all
        · skip
          refine O_skip rfl rfl ?_
          refine O_skip rfl rfl ?_
          refine O_skip rfl rfl ?_
          refine O_skip rfl rfl ?_
          refine O_skip rfl rfl ?_
          first | refine O_pick_true rfl rfl rfl rfl ?_ | refine O_pick_false rfl rfl rfl rfl ?_
          refine O_move rfl rfl rfl ?_
          refine O_know 38 (.bool false) rfl (congrArg Value.bool (rfl)) ?_
          refine O_skip rfl rfl ?_
          refine O_skip rfl rfl ?_
          refine O_skip rfl rfl ?_
          refine O_skip rfl rfl ?_
          refine O_skip rfl rfl ?_
          refine O_skip rfl rfl ?_
          refine O_skip rfl rfl ?_
          first | refine O_pick_true rfl rfl rfl rfl ?_ | refine O_pick_false rfl rfl rfl rfl ?_
          refine O_move rfl rfl rfl ?_
          refine O_know 47 (.bool false) rfl (congrArg Value.bool (rfl)) ?_
          refine O_skip rfl rfl ?_
          refine O_skip rfl rfl ?_
          refine O_skip rfl rfl ?_
          refine O_skip rfl rfl ?_
          refine O_skip rfl rfl ?_
          first | refine O_pick_true rfl rfl rfl rfl ?_ | refine O_pick_false rfl rfl rfl rfl ?_
          refine O_move rfl rfl rfl ?_
          refine O_know 54 (.bool false) rfl (congrArg Value.bool (rfl)) ?_
          refine O_skip rfl rfl ?_
          refine O_skip rfl rfl ?_
          refine O_skip rfl rfl ?_
          refine O_skip rfl rfl ?_
          refine O_skip rfl rfl ?_
          first | refine O_pick_true rfl rfl rfl rfl ?_ | refine O_pick_false rfl rfl rfl rfl ?_
          refine O_assign rfl rfl rfl ?_
          refine O_end ?_
          refine W_ret ⟨_, rfl, ?_⟩
          refine ⟨congrArg Value.bool ?_, hS.bare⟩
          unfold samemsg
          simp_all
      · skip
        refine O_skip rfl rfl ?_
        refine O_skip rfl rfl ?_
        refine O_skip rfl rfl ?_
        refine O_skip rfl rfl ?_
        refine O_skip rfl rfl ?_
        first | refine O_pick_true rfl rfl rfl rfl ?_ | refine O_pick_false rfl rfl rfl rfl ?_
        refine O_move rfl rfl rfl ?_
        refine O_know 31 (.bool false) rfl (congrArg Value.bool (rfl)) ?_
        refine O_skip rfl rfl ?_
        refine O_skip rfl rfl ?_
        refine O_skip rfl rfl ?_
        refine O_skip rfl rfl ?_
        refine O_skip rfl rfl ?_
        first | refine O_pick_true rfl rfl rfl rfl ?_ | refine O_pick_false rfl rfl rfl rfl ?_
        refine O_move rfl rfl rfl ?_
        refine O_know 38 (.bool false) rfl (congrArg Value.bool (rfl)) ?_
        refine O_skip rfl rfl ?_
        refine O_skip rfl rfl ?_
        refine O_skip rfl rfl ?_
        refine O_skip rfl rfl ?_
        refine O_skip rfl rfl ?_
        refine O_skip rfl rfl ?_
        refine O_skip rfl rfl ?_
        first | refine O_pick_true rfl rfl rfl rfl ?_ | refine O_pick_false rfl rfl rfl rfl ?_
        refine O_move rfl rfl rfl ?_
        refine O_know 47 (.bool false) rfl (congrArg Value.bool (rfl)) ?_
        refine O_skip rfl rfl ?_
        refine O_skip rfl rfl ?_
        refine O_skip rfl rfl ?_
        refine O_skip rfl rfl ?_
        refine O_skip rfl rfl ?_
        first | refine O_pick_true rfl rfl rfl rfl ?_ | refine O_pick_false rfl rfl rfl rfl ?_
        refine O_move rfl rfl rfl ?_
        refine O_know 54 (.bool false) rfl (congrArg Value.bool (rfl)) ?_
        refine O_skip rfl rfl ?_
        refine O_skip rfl rfl ?_
        refine O_skip rfl rfl ?_
        refine O_skip rfl rfl ?_
        refine O_skip rfl rfl ?_
        first | refine O_pick_true rfl rfl rfl rfl ?_ | refine O_pick_false rfl rfl rfl rfl ?_
        refine O_assign rfl rfl rfl ?_
        refine O_end ?_
        refine W_ret ⟨_, rfl, ?_⟩
        refine ⟨congrArg Value.bool ?_, hS.bare⟩
        unfold samemsg
        simp_all
    · skip
      refine O_skip rfl rfl ?_
      refine O_skip rfl rfl ?_
      refine O_skip rfl rfl ?_
      refine O_skip rfl rfl ?_
      refine O_skip rfl rfl ?_
      first | refine O_pick_true rfl rfl rfl rfl ?_ | refine O_pick_false rfl rfl rfl rfl ?_
      refine O_move rfl rfl rfl ?_
      refine O_know 24 (.bool false) rfl (congrArg Value.bool (rfl)) ?_
      refine O_skip rfl rfl ?_
      refine O_skip rfl rfl ?_
      refine O_skip rfl rfl ?_
      refine O_skip rfl rfl ?_
      refine O_skip rfl rfl ?_
      first | refine O_pick_true rfl rfl rfl rfl ?_ | refine O_pick_false rfl rfl rfl rfl ?_
      refine O_move rfl rfl rfl ?_
      refine O_know 31 (.bool false) rfl (congrArg Value.bool (rfl)) ?_
      refine O_skip rfl rfl ?_
      refine O_skip rfl rfl ?_
      refine O_skip rfl rfl ?_
      refine O_skip rfl rfl ?_
      refine O_skip rfl rfl ?_
      first | refine O_pick_true rfl rfl rfl rfl ?_ | refine O_pick_false rfl rfl rfl rfl ?_
      refine O_move rfl rfl rfl ?_
      refine O_know 38 (.bool false) rfl (congrArg Value.bool (rfl)) ?_
      refine O_skip rfl rfl ?_
      refine O_skip rfl rfl ?_
      refine O_skip rfl rfl ?_
      refine O_skip rfl rfl ?_
      refine O_skip rfl rfl ?_
      refine O_skip rfl rfl ?_
      refine O_skip rfl rfl ?_
      first | refine O_pick_true rfl rfl rfl rfl ?_ | refine O_pick_false rfl rfl rfl rfl ?_
      refine O_move rfl rfl rfl ?_
      refine O_know 47 (.bool false) rfl (congrArg Value.bool (rfl)) ?_
      refine O_skip rfl rfl ?_
      refine O_skip rfl rfl ?_
      refine O_skip rfl rfl ?_
      refine O_skip rfl rfl ?_
      refine O_skip rfl rfl ?_
      first | refine O_pick_true rfl rfl rfl rfl ?_ | refine O_pick_false rfl rfl rfl rfl ?_
      refine O_move rfl rfl rfl ?_
      refine O_know 54 (.bool false) rfl (congrArg Value.bool (rfl)) ?_
      refine O_skip rfl rfl ?_
      refine O_skip rfl rfl ?_
      refine O_skip rfl rfl ?_
      refine O_skip rfl rfl ?_
      refine O_skip rfl rfl ?_
      first | refine O_pick_true rfl rfl rfl rfl ?_ | refine O_pick_false rfl rfl rfl rfl ?_
      refine O_assign rfl rfl rfl ?_
      refine O_end ?_
      refine W_ret ⟨_, rfl, ?_⟩
      refine ⟨congrArg Value.bool ?_, hS.bare⟩
      unfold samemsg
      simp_all
  · skip
    refine O_skip rfl rfl ?_
    refine O_skip rfl rfl ?_
    refine O_skip rfl rfl ?_
    refine O_skip rfl rfl ?_
    refine O_skip rfl rfl ?_
    first | refine O_pick_true rfl rfl rfl rfl ?_ | refine O_pick_false rfl rfl rfl rfl ?_
    refine O_move rfl rfl rfl ?_
    refine O_know 17 (.bool false) rfl (congrArg Value.bool (rfl)) ?_
    refine O_skip rfl rfl ?_
    refine O_skip rfl rfl ?_
    refine O_skip rfl rfl ?_
    refine O_skip rfl rfl ?_
    refine O_skip rfl rfl ?_
    first | refine O_pick_true rfl rfl rfl rfl ?_ | refine O_pick_false rfl rfl rfl rfl ?_
    refine O_move rfl rfl rfl ?_
    refine O_know 24 (.bool false) rfl (congrArg Value.bool (rfl)) ?_
    refine O_skip rfl rfl ?_
    refine O_skip rfl rfl ?_
    refine O_skip rfl rfl ?_
    refine O_skip rfl rfl ?_
    refine O_skip rfl rfl ?_
    first | refine O_pick_true rfl rfl rfl rfl ?_ | refine O_pick_false rfl rfl rfl rfl ?_
    refine O_move rfl rfl rfl ?_
    refine O_know 31 (.bool false) rfl (congrArg Value.bool (rfl)) ?_
    refine O_skip rfl rfl ?_
    refine O_skip rfl rfl ?_
    refine O_skip rfl rfl ?_
    refine O_skip rfl rfl ?_
    refine O_skip rfl rfl ?_
    first | refine O_pick_true rfl rfl rfl rfl ?_ | refine O_pick_false rfl rfl rfl rfl ?_
    refine O_move rfl rfl rfl ?_
    refine O_know 38 (.bool false) rfl (congrArg Value.bool (rfl)) ?_
    refine O_skip rfl rfl ?_
    refine O_skip rfl rfl ?_
    refine O_skip rfl rfl ?_
    refine O_skip rfl rfl ?_
    refine O_skip rfl rfl ?_
    refine O_skip rfl rfl ?_
    refine O_skip rfl rfl ?_
    first | refine O_pick_true rfl rfl rfl rfl ?_ | refine O_pick_false rfl rfl rfl rfl ?_
    refine O_move rfl rfl rfl ?_
    refine O_know 47 (.bool false) rfl (congrArg Value.bool (rfl)) ?_
    refine O_skip rfl rfl ?_
    refine O_skip rfl rfl ?_
    refine O_skip rfl rfl ?_
    refine O_skip rfl rfl ?_
    refine O_skip rfl rfl ?_
    first | refine O_pick_true rfl rfl rfl rfl ?_ | refine O_pick_false rfl rfl rfl rfl ?_
    refine O_move rfl rfl rfl ?_
    refine O_know 54 (.bool false) rfl (congrArg Value.bool (rfl)) ?_
    refine O_skip rfl rfl ?_
    refine O_skip rfl rfl ?_
    refine O_skip rfl rfl ?_
    refine O_skip rfl rfl ?_
    refine O_skip rfl rfl ?_
    first | refine O_pick_true rfl rfl rfl rfl ?_ | refine O_pick_false rfl rfl rfl rfl ?_
    refine O_assign rfl rfl rfl ?_
    refine O_end ?_
    refine W_ret ⟨_, rfl, ?_⟩
    refine ⟨congrArg Value.bool ?_, hS.bare⟩
    unfold samemsg
    simp_all

end Go.Proofs.Ytaglgnjamihdnaa.R
