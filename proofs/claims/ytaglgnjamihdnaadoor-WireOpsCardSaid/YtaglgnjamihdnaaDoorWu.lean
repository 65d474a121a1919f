/- Any operation and mark as bytes, any bytes as these: the law's walk. -/
import Derived.Test.YtaglgnjamihdnaaDoorWs
namespace Go.Proofs.YtaglgnjamihdnaaDoor.R
open Go Go.RowKit Go.Proofs
set_option linter.unusedVariables false
set_option linter.unusedSimpArgs false
set_option maxRecDepth 20000

theorem eq_mk (a : Mkr) (w : World) : (Op.equalIn 10000 35 (.agg a.cs.toArray) (.agg a.cs.toArray)).run Tryd.prog w = .ok true w := by
  have h := eq_mark a.k a.p a.e a.t a.k a.p a.e a.t w
  simpa using h
theorem beqself (n : Int) : (n == n) = true := by simp

set_option maxHeartbeats 2000000 in
theorem wireOps_spec {w0 : World} {o : Opr} {m : Mkr} {B : Option Addr} {bs : List UInt8} {c : Nat} (hl : o.nm.length ≤ 9223372036854775807) (hr : Rd w0 B (bvs bs)) (hc : bs.length ≤ c) (hm : c ≤ maxLen) : Calls Tryd.prog 5 #[.agg o.cs.toArray, .agg m.cs.toArray, .slice B bs.length c] w0 (Ret fun r w => r = .bool true ∧ ∃ Gs, St w0 [] Gs w) := by
  have hS : Own [] w0 := St.start w0
  refine calls_enter (l := [.agg o.cs.toArray, .agg m.cs.toArray, .slice B bs.length c]) Tryd.func5 rfl Tryd.ntmps5 Tryd.results5 (Nat.le_of_ble_eq_true rfl) ?_
  refine W_seq ?_
  refine W_region ?_
  refine O_box hS rfl rfl rfl (fun b3 w hS => ?_)
  refine O_box hS rfl rfl rfl (fun b4 w hS => ?_)
  refine O_assign rfl rfl rfl ?_
  refine O_end ?_
  refine W_seq ?_
  refine W_seq ?_
  refine W_region ?_
  refine O_fieldAddr rfl rfl rfl ?_
  refine O_load rfl rfl rfl rfl (hS.f1.cell rfl) ?_
  refine O_lenstr rfl rfl rfl rfl ?_
  refine O_bin rfl rfl rfl rfl rfl ?_
  refine O_move rfl rfl rfl ?_
  refine O_part 27 rfl (fun c27 => ?_) (fun c27 => ?_)
  · skip
    refine O_skip rfl rfl ?_
    refine O_skip rfl rfl ?_
    refine O_skip rfl rfl ?_
    first | refine O_pick_true rfl rfl rfl rfl ?_ | refine O_pick_false rfl rfl rfl rfl ?_
    refine O_end ?_
    refine W_if_true rfl (rfl) ?_
    refine W_seq ?_
    refine W_region ?_
    refine O_assign rfl rfl rfl ?_
    refine O_end ?_
    refine W_ret ⟨_, rfl, ?_⟩
    exact ⟨rfl, _, hS⟩
  · skip
    refine O_move rfl rfl rfl ?_
    refine O_len rfl rfl rfl rfl ?_
    refine O_bin rfl rfl rfl rfl rfl ?_
    first | refine O_pick_true rfl rfl rfl rfl ?_ | refine O_pick_false rfl rfl rfl rfl ?_
    refine O_end ?_
    refine W_if rfl (fun c31 => ?_) (fun c31 => ?_)
    · skip
      refine W_seq ?_
      refine W_region ?_
      refine O_assign rfl rfl rfl ?_
      refine O_end ?_
      refine W_ret ⟨_, rfl, ?_⟩
      exact ⟨rfl, _, hS⟩
    · skip
      refine W_skip ?_
      refine W_seq ?_
      refine W_region ?_
      have hbb : bs.length ≤ 500 := by have := of_decide_eq_false c31; omega
      refine O_loadAgg (vs := o.cs) rfl rfl rfl rfl rfl hS.f1.rdAll ?_
      have hcall := encodeOp_spec (w0 := w) (o := o)
      refine O_call rfl rfl rfl hcall (fun r w ⟨v7, G7, hz, hG7, hk⟩ => ?_)
      subst hz
      have hS := hS.after0 hk
      obtain ⟨A7, c7, rfl, _⟩ := hG7.form
      refine O_move rfl rfl rfl ?_
      refine O_extract rfl rfl rfl rfl ?_
      refine O_extract rfl rfl rfl rfl ?_
      refine O_assign rfl rfl rfl ?_
      refine O_assign rfl rfl rfl ?_
      refine O_end ?_
      refine W_seq ?_
      refine W_region ?_
      refine O_loadAgg (vs := o.cs) rfl rfl rfl rfl rfl hS.f2.rdAll ?_
      have hcall := refEncodeOp_spec (w0 := w) (o := o) hl
      refine O_call rfl rfl rfl hcall (fun r w ⟨v9, G9, hz, hG9, hk⟩ => ?_)
      subst hz
      have hS := hS.after0 hk
      obtain ⟨A9, c9, rfl, _⟩ := hG9.form
      refine O_move rfl rfl rfl ?_
      refine O_extract rfl rfl rfl rfl ?_
      refine O_extract rfl rfl rfl rfl ?_
      refine O_assign rfl rfl rfl ?_
      refine O_assign rfl rfl rfl ?_
      refine O_end ?_
      refine W_seq ?_
      refine W_region ?_
      refine O_lit hS rfl rfl rfl rfl rfl rfl (Nat.le_of_ble_eq_true rfl) (fun b43 w hS => ?_)
      refine O_move rfl rfl rfl ?_
      refine O_append hS (Row.made (size := 1) (by simp [maxLen]) (Nat.zero_le _)) rfl rfl (by decide) rfl rfl rfl (news := bvs bs) (by simp) (hS.rd hr (Apart.of_nil _ _)) (bvs_one _) (by omega) (by unfold maxLen; omega) (fun v1 R1 w hR1 hS => ?_)
      have hR1 : BRow v1 bs R1 := by simpa [BRow] using hR1
      obtain ⟨A1, c1, rfl, _⟩ := hR1.form
      have hn1 := own_bytes2 hR1 hS
      have hcall := decodeOp_spec (c := c1) hn1 (by omega)
      refine O_call rfl rfl rfl hcall (fun r w ⟨hz, hk⟩ => ?_)
      subst hz
      have hS := hS.after0 hk
      refine O_move rfl rfl rfl ?_
      refine O_extract rfl rfl rfl rfl ?_
      refine O_extract rfl rfl rfl rfl ?_
      refine O_alloc hS rfl rfl (fun b11 w hS => ?_)
      refine O_storeAgg hS rfl rfl rfl rfl rfl (Nat.le_of_ble_eq_true rfl) (fun w hS => ?_)
      have hS := St.whole (vs := (if odec (begunSt bs 2) then oread (begunSt bs 2) else opZ).cs) hS rfl
      refine O_assign rfl rfl rfl ?_
      refine O_end ?_
      refine W_seq ?_
      refine W_region ?_
      have hS := hS.f1.drop
      refine O_move rfl rfl rfl ?_
      have hcall := refDecodeOp_spec (hS.rd hr (Apart.of_nil _ _)) hc hm (by omega)
      rw [odec_eq] at hcall
      refine O_call rfl rfl rfl hcall (fun r w ⟨hz, hk⟩ => ?_)
      subst hz
      have hS := hS.after0 hk
      refine O_move rfl rfl rfl ?_
      refine O_extract rfl rfl rfl rfl ?_
      refine O_extract rfl rfl rfl rfl ?_
      refine O_alloc hS rfl rfl (fun b13 w hS => ?_)
      refine O_storeAgg hS rfl rfl rfl rfl rfl (Nat.le_of_ble_eq_true rfl) (fun w hS => ?_)
      have hS := St.whole (vs := (if odec (begunSt bs 2) then oread (begunSt bs 2) else opZ).cs) hS rfl
      refine O_assign rfl rfl rfl ?_
      refine O_end ?_
      refine W_seq ?_
      refine W_region ?_
      refine O_loadAgg (vs := m.cs) rfl rfl rfl rfl rfl hS.f4.rdAll ?_
      have hcall := encodeMark_spec (w0 := w) (k := m.k) (p := m.p) (e := m.e) (t := m.t)
      refine O_call rfl rfl rfl hcall (fun r w ⟨v15, G15, hz, hG15, hk⟩ => ?_)
      subst hz
      have hS := hS.after0 hk
      obtain ⟨A15, c15, rfl, _⟩ := hG15.form
      refine O_move rfl rfl rfl ?_
      refine O_extract rfl rfl rfl rfl ?_
      refine O_extract rfl rfl rfl rfl ?_
      refine O_assign rfl rfl rfl ?_
      refine O_assign rfl rfl rfl ?_
      refine O_end ?_
      refine W_seq ?_
      refine W_region ?_
      refine O_loadAgg (vs := m.cs) rfl rfl rfl rfl rfl hS.f5.rdAll ?_
      have hcall := refEncodeMark_spec (w0 := w) (k := m.k) (p := m.p) (e := m.e) (t := m.t)
      refine O_call rfl rfl rfl hcall (fun r w ⟨v17, G17, hz, hG17, hk⟩ => ?_)
      subst hz
      have hS := hS.after0 hk
      obtain ⟨A17, c17, rfl, _⟩ := hG17.form
      refine O_move rfl rfl rfl ?_
      refine O_extract rfl rfl rfl rfl ?_
      refine O_extract rfl rfl rfl rfl ?_
      refine O_assign rfl rfl rfl ?_
      refine O_assign rfl rfl rfl ?_
      refine O_end ?_
      refine W_seq ?_
      refine W_region ?_
      refine O_lit hS rfl rfl rfl rfl rfl rfl (Nat.le_of_ble_eq_true rfl) (fun b65 w hS => ?_)
      refine O_move rfl rfl rfl ?_
      refine O_append hS (Row.made (size := 1) (by simp [maxLen]) (Nat.zero_le _)) rfl rfl (by decide) rfl rfl rfl (news := bvs bs) (by simp) (hS.rd hr (Apart.of_nil _ _)) (bvs_one _) (by omega) (by unfold maxLen; omega) (fun v2 R2 w hR2 hS => ?_)
      have hR2 : BRow v2 bs R2 := by simpa [BRow] using hR2
      obtain ⟨A2, c2, rfl, _⟩ := hR2.form
      have hn2 := own_bytes2 hR2 hS
      have hcall := decodeMark2_spec (c := c2) hn2 (by omega)
      refine O_call rfl rfl rfl hcall (fun r w ⟨hz, hk⟩ => ?_)
      subst hz
      have hS := hS.after0 hk
      refine O_move rfl rfl rfl ?_
      refine O_extract rfl rfl rfl rfl ?_
      refine O_extract rfl rfl rfl rfl ?_
      refine O_alloc hS rfl rfl (fun b19 w hS => ?_)
      refine O_storeAgg hS rfl rfl rfl rfl rfl (Nat.le_of_ble_eq_true rfl) (fun w hS => ?_)
      have hS := St.whole (vs := (if mdec (begunSt bs 3) then mread (begunSt bs 3) else mkZ).cs) hS rfl
      refine O_assign rfl rfl rfl ?_
      refine O_end ?_
      refine W_seq ?_
      refine W_region ?_
      have hS := hS.f1.drop
      refine O_move rfl rfl rfl ?_
      have hcall := refDecodeMark_spec (hS.rd hr (Apart.of_nil _ _)) hc hm (by omega)
      rw [mdec_eq] at hcall
      refine O_call rfl rfl rfl hcall (fun r w ⟨hz, hk⟩ => ?_)
      subst hz
      have hS := hS.after0 hk
      refine O_move rfl rfl rfl ?_
      refine O_extract rfl rfl rfl rfl ?_
      refine O_extract rfl rfl rfl rfl ?_
      refine O_alloc hS rfl rfl (fun b21 w hS => ?_)
      refine O_storeAgg hS rfl rfl rfl rfl rfl (Nat.le_of_ble_eq_true rfl) (fun w hS => ?_)
      have hS := St.whole (vs := (if mdec (begunSt bs 3) then mread (begunSt bs 3) else mkZ).cs) hS rfl
      refine O_assign rfl rfl rfl ?_
      refine O_end ?_
      refine W_seq ?_
      refine W_region ?_
      have hq21 : Rd w (some ⟨b21, 0, none⟩) (if mdec (begunSt bs 3) then mread (begunSt bs 3) else mkZ).cs := hS.rdAll
      have hq19 : Rd w (some ⟨b19, 0, none⟩) (if mdec (begunSt bs 3) then mread (begunSt bs 3) else mkZ).cs := hS.f1.rdAll
      have hq17 := own_bytes2 hG17 hS.f2
      have hq15 := own_bytes2 hG15 hS.f3
      have hq13 : Rd w (some ⟨b13, 0, none⟩) (if odec (begunSt bs 2) then oread (begunSt bs 2) else opZ).cs := hS.f4.rdAll
      have hq11 : Rd w (some ⟨b11, 0, none⟩) (if odec (begunSt bs 2) then oread (begunSt bs 2) else opZ).cs := hS.f5.rdAll
      have hq9 := own_bytes2 hG9 hS.f6
      have hq7 := own_bytes2 hG7 hS.f6.drop.f6
      refine O_move rfl rfl rfl ?_
      refine O_str rfl rfl rfl hq7 ?_
      refine O_move rfl rfl rfl ?_
      refine O_str rfl rfl rfl hq9 ?_
      refine O_eql_str rfl rfl rfl rfl ?_
      refine O_know 80 (.bool true) rfl (congrArg Value.bool ((strOf_eq _ _).trans (decide_eq_true rfl))) ?_
      refine O_move rfl rfl rfl ?_
      refine O_know 81 (.bool true) rfl (congrArg Value.bool (rfl)) ?_
      refine O_move rfl rfl rfl ?_
      refine O_move rfl rfl rfl ?_
      refine O_bin rfl rfl rfl rfl rfl ?_
      refine O_know 84 (.bool true) rfl (congrArg Value.bool (beqself _)) ?_
      first | refine O_pick_true rfl rfl rfl rfl ?_ | refine O_pick_false rfl rfl rfl rfl ?_
      refine O_move rfl rfl rfl ?_
      refine O_know 86 (.bool true) rfl (congrArg Value.bool (rfl)) ?_
      refine O_loadAgg (vs := (if odec (begunSt bs 2) then oread (begunSt bs 2) else opZ).cs) rfl rfl rfl rfl rfl hq11 ?_
      refine O_loadAgg (vs := (if odec (begunSt bs 2) then oread (begunSt bs 2) else opZ).cs) rfl rfl rfl rfl rfl hq13 ?_
      refine O_eql_agg rfl rfl rfl rfl (by kernel_rfl) (fun w => eq_op _ _ w) ?_
      refine O_know 89 (.bool true) rfl (congrArg Value.bool ((Opr.eq_iff _ _).2 rfl)) ?_
      first | refine O_pick_true rfl rfl rfl rfl ?_ | refine O_pick_false rfl rfl rfl rfl ?_
      refine O_move rfl rfl rfl ?_
      refine O_know 91 (.bool true) rfl (congrArg Value.bool (rfl)) ?_
      refine O_move rfl rfl rfl ?_
      refine O_move rfl rfl rfl ?_
      refine O_bin rfl rfl rfl rfl rfl ?_
      refine O_know 94 (.bool true) rfl (congrArg Value.bool (beqself _)) ?_
      first | refine O_pick_true rfl rfl rfl rfl ?_ | refine O_pick_false rfl rfl rfl rfl ?_
      refine O_move rfl rfl rfl ?_
      refine O_know 96 (.bool true) rfl (congrArg Value.bool (rfl)) ?_
      refine O_move rfl rfl rfl ?_
      refine O_str rfl rfl rfl hq15 ?_
      refine O_move rfl rfl rfl ?_
      refine O_str rfl rfl rfl hq17 ?_
      refine O_eql_str rfl rfl rfl rfl ?_
      refine O_know 101 (.bool true) rfl (congrArg Value.bool ((strOf_eq _ _).trans (decide_eq_true rfl))) ?_
      first | refine O_pick_true rfl rfl rfl rfl ?_ | refine O_pick_false rfl rfl rfl rfl ?_
      refine O_move rfl rfl rfl ?_
      refine O_know 103 (.bool true) rfl (congrArg Value.bool (rfl)) ?_
      refine O_move rfl rfl rfl ?_
      refine O_move rfl rfl rfl ?_
      refine O_bin rfl rfl rfl rfl rfl ?_
      refine O_know 106 (.bool true) rfl (congrArg Value.bool (beqself _)) ?_
      first | refine O_pick_true rfl rfl rfl rfl ?_ | refine O_pick_false rfl rfl rfl rfl ?_
      refine O_move rfl rfl rfl ?_
      refine O_know 108 (.bool true) rfl (congrArg Value.bool (rfl)) ?_
      refine O_loadAgg (vs := (if mdec (begunSt bs 3) then mread (begunSt bs 3) else mkZ).cs) rfl rfl rfl rfl rfl hq19 ?_
      refine O_loadAgg (vs := (if mdec (begunSt bs 3) then mread (begunSt bs 3) else mkZ).cs) rfl rfl rfl rfl rfl hq21 ?_
      refine O_eql_agg rfl rfl rfl rfl (by kernel_rfl) (fun w => eq_mk _ w) ?_
      first | refine O_pick_true rfl rfl rfl rfl ?_ | refine O_pick_false rfl rfl rfl rfl ?_
      refine O_move rfl rfl rfl ?_
      refine O_know 113 (.bool true) rfl (congrArg Value.bool (rfl)) ?_
      refine O_move rfl rfl rfl ?_
      refine O_move rfl rfl rfl ?_
      refine O_bin rfl rfl rfl rfl rfl ?_
      refine O_know 116 (.bool true) rfl (congrArg Value.bool (beqself _)) ?_
      first | refine O_pick_true rfl rfl rfl rfl ?_ | refine O_pick_false rfl rfl rfl rfl ?_
      refine O_move rfl rfl rfl ?_
      refine O_know 118 (.bool true) rfl (congrArg Value.bool (rfl)) ?_
      have hcall := known_spec (w0 := w)
      refine O_call rfl rfl rfl hcall (fun r w ⟨hz, hk⟩ => ?_)
      subst hz
      have hS := hS.after0 hk
      first | refine O_pick_true rfl rfl rfl rfl ?_ | refine O_pick_false rfl rfl rfl rfl ?_
      refine O_assign rfl rfl rfl ?_
      refine O_end ?_
      refine W_ret ⟨_, rfl, ?_⟩
      exact ⟨rfl, _, hS⟩

end Go.Proofs.YtaglgnjamihdnaaDoor.R
