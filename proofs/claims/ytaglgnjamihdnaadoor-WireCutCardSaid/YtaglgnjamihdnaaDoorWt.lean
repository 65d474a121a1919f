/- What an operation's kind does not name must be nothing; bytes with anything behind, or cut short, are none: the laws' walks. -/
import Derived.Test.YtaglgnjamihdnaaDoorWs
namespace Go.Proofs.YtaglgnjamihdnaaDoor.R
open Go Go.RowKit Go.Proofs
set_option linter.unusedVariables false
set_option linter.unusedSimpArgs false
set_option maxRecDepth 20000

theorem bit0 (b : Bool) : ((if b then (0 : Int) else 1) == 0) = b := by cases b <;> rfl
theorem bit1 (b : Bool) : ((if b then (0 : Int) else 1) == 1) = !b := by cases b <;> rfl
theorem beqself (b : Bool) : (b == b) = true := by cases b <;> rfl

set_option maxHeartbeats 1000000 in
theorem wireNamed_spec {w0 : World} {o : Opr} {n : Int} (hl : o.nm.length ≤ 9223372036854775807) : Calls Tryd.prog 3 #[.agg o.cs.toArray, .int .i64 n] w0 (Ret fun r w => r = .bool true ∧ ∃ Gs, St w0 [] Gs w) := by
  have hS : Own [] w0 := St.start w0
  refine calls_enter (l := [.agg o.cs.toArray, .int .i64 n]) Tryd.func3 rfl Tryd.ntmps3 Tryd.results3 (Nat.le_of_ble_eq_true rfl) ?_
  refine W_seq ?_
  refine W_region ?_
  refine O_box hS rfl rfl rfl (fun b2 w hS => ?_)
  refine O_assign rfl rfl rfl ?_
  refine O_end ?_
  refine W_seq ?_
  refine W_seq ?_
  refine W_region ?_
  refine O_loadAgg (vs := o.cs) rfl rfl rfl rfl rfl hS.rdAll ?_
  have hcall := IsOp_spec (w0 := w) (o := o) hl
  refine O_call rfl rfl rfl hcall (fun r w ⟨hz, hk⟩ => ?_)
  subst hz
  have hS := hS.after0 hk
  refine O_not rfl rfl rfl ?_
  refine O_move rfl rfl rfl ?_
  refine O_part 13 rfl (fun c13 => ?_) (fun c13 => ?_)
  · skip
    refine O_skip rfl rfl ?_
    refine O_skip rfl rfl ?_
    first | refine O_pick_true rfl rfl rfl rfl ?_ | refine O_pick_false rfl rfl rfl rfl ?_
    refine O_move rfl rfl rfl ?_
    refine O_know 17 (.bool true) rfl (congrArg Value.bool (rfl)) ?_
    refine O_skip rfl rfl ?_
    refine O_skip rfl rfl ?_
    first | refine O_pick_true rfl rfl rfl rfl ?_ | refine O_pick_false rfl rfl rfl rfl ?_
    refine O_end ?_
    refine W_if_true rfl (rfl) ?_
    refine W_seq ?_
    refine W_region ?_
    refine O_assign rfl rfl rfl ?_
    refine O_end ?_
    refine W_ret ⟨_, rfl, ?_⟩
    exact ⟨rfl, _, hS⟩
  · skip
    refine O_move rfl rfl rfl ?_
    refine O_bin rfl rfl rfl rfl rfl ?_
    first | refine O_pick_true rfl rfl rfl rfl ?_ | refine O_pick_false rfl rfl rfl rfl ?_
    refine O_move rfl rfl rfl ?_
    refine O_part 17 rfl (fun c17 => ?_) (fun c17 => ?_)
    · skip
      refine O_skip rfl rfl ?_
      refine O_skip rfl rfl ?_
      first | refine O_pick_true rfl rfl rfl rfl ?_ | refine O_pick_false rfl rfl rfl rfl ?_
      refine O_end ?_
      refine W_if_true rfl (rfl) ?_
      refine W_seq ?_
      refine W_region ?_
      refine O_assign rfl rfl rfl ?_
      refine O_end ?_
      refine W_ret ⟨_, rfl, ?_⟩
      exact ⟨rfl, _, hS⟩
    · skip
      refine O_move rfl rfl rfl ?_
      refine O_bin rfl rfl rfl rfl rfl ?_
      first | refine O_pick_true rfl rfl rfl rfl ?_ | refine O_pick_false rfl rfl rfl rfl ?_
      refine O_end ?_
      refine W_if rfl (fun c20 => ?_) (fun c20 => ?_)
      · skip
        refine W_seq ?_
        refine W_region ?_
        refine O_assign rfl rfl rfl ?_
        refine O_end ?_
        refine W_ret ⟨_, rfl, ?_⟩
        exact ⟨rfl, _, hS⟩
      · skip
        refine W_skip ?_
        refine W_seq ?_
        refine W_region ?_
        have hm : opok o = true := by simpa using c13
        have hl8 := opok_len hm
        refine O_loadAgg (vs := o.cs) rfl rfl rfl rfl rfl hS.rdAll ?_
        refine O_alloc hS rfl rfl (fun b5 w hS => ?_)
        refine O_storeAgg hS rfl rfl rfl rfl rfl (Nat.le_of_ble_eq_true rfl) (fun w hS => ?_)
        have hS := St.whole (vs := o.cs) hS rfl
        refine O_end ?_
        refine W_cut (fun σ w => ∃ p : Opr, p.nm.length ≤ 100 ∧ sub σ [(2, .pointer (some ⟨b2, 0, none⟩)), (5, .pointer (some ⟨b5, 0, none⟩))] ∧ St w0 [] [ocell b5 p, ocell b2 o] w) ?_ ?_
        · skip
          refine W_seq ?_
          refine W_region ?_
          refine O_move rfl rfl rfl ?_
          refine O_end ?_
          refine W_block ?_
          refine W_seq ?_
          refine W_region ?_
          refine O_bin rfl rfl rfl rfl rfl ?_
          refine O_assign rfl rfl rfl ?_
          refine O_end ?_
          refine W_if rfl (fun c27 => ?_) (fun c27 => ?_)
          · skip
            refine W_region ?_
            refine O_fieldAddr rfl rfl rfl ?_
            refine O_load rfl rfl rfl rfl (hS.f1.cell rfl) ?_
            refine O_add_str (a := o.nm) (b := [97]) rfl rfl rfl rfl (by simp; omega) ?_
            refine O_fieldAddr rfl rfl rfl ?_
            refine O_store hS rfl rfl rfl rfl (Nat.le_of_ble_eq_true rfl) (fun w hS => ?_)
            refine O_end ?_
            exact ⟨⟨o.k, o.c, o.s, o.nm ++ [97], o.p, o.e, o.t, o.q, o.cm⟩, by simp; omega, ⟨rfl, rfl, trivial⟩, hS⟩
          · skip
            refine W_seq ?_
            refine W_region ?_
            refine O_bin rfl rfl rfl rfl rfl ?_
            refine O_assign rfl rfl rfl ?_
            refine O_end ?_
            refine W_if rfl (fun c33 => ?_) (fun c33 => ?_)
            · skip
              refine W_region ?_
              refine O_fieldAddr rfl rfl rfl ?_
              refine O_load rfl rfl rfl rfl (hS.f1.cell rfl) ?_
              refine O_bin rfl rfl rfl rfl rfl ?_
              refine O_fieldAddr rfl rfl rfl ?_
              refine O_store hS rfl rfl rfl rfl (Nat.le_of_ble_eq_true rfl) (fun w hS => ?_)
              refine O_end ?_
              exact ⟨⟨o.k, o.c, o.s, o.nm, o.p, o.e, o.t, IntKind.i64.wrap (o.q + 1), o.cm⟩, by show o.nm.length ≤ 100; omega, ⟨rfl, rfl, trivial⟩, hS⟩
            · skip
              refine W_seq ?_
              refine W_region ?_
              refine O_bin rfl rfl rfl rfl rfl ?_
              refine O_assign rfl rfl rfl ?_
              refine O_end ?_
              refine W_if rfl (fun c39 => ?_) (fun c39 => ?_)
              · skip
                refine W_region ?_
                refine O_fieldAddr rfl rfl rfl ?_
                refine O_load rfl rfl rfl rfl (hS.f1.cell rfl) ?_
                refine O_not rfl rfl rfl ?_
                refine O_fieldAddr rfl rfl rfl ?_
                refine O_store hS rfl rfl rfl rfl (Nat.le_of_ble_eq_true rfl) (fun w hS => ?_)
                refine O_end ?_
                exact ⟨⟨o.k, o.c, o.s, o.nm, o.p, o.e, o.t, o.q, !o.cm⟩, by show o.nm.length ≤ 100; omega, ⟨rfl, rfl, trivial⟩, hS⟩
              · skip
                refine W_seq ?_
                refine W_region ?_
                refine O_bin rfl rfl rfl rfl rfl ?_
                refine O_assign rfl rfl rfl ?_
                refine O_end ?_
                refine W_if rfl (fun c45 => ?_) (fun c45 => ?_)
                · skip
                  refine W_region ?_
                  refine O_fieldAddr rfl rfl rfl ?_
                  refine O_load rfl rfl rfl rfl (hS.f1.cell rfl) ?_
                  refine O_bin rfl rfl rfl rfl rfl ?_
                  refine O_fieldAddr rfl rfl rfl ?_
                  refine O_store hS rfl rfl rfl rfl (Nat.le_of_ble_eq_true rfl) (fun w hS => ?_)
                  refine O_end ?_
                  exact ⟨⟨o.k, o.c, o.s, o.nm, o.p, o.e, IntKind.i64.wrap (o.t + 1), o.q, o.cm⟩, by show o.nm.length ≤ 100; omega, ⟨rfl, rfl, trivial⟩, hS⟩
                · skip
                  refine W_region ?_
                  refine O_fieldAddr rfl rfl rfl ?_
                  refine O_load rfl rfl rfl rfl (hS.f1.cell rfl) ?_
                  refine O_bin rfl rfl rfl rfl rfl ?_
                  refine O_fieldAddr rfl rfl rfl ?_
                  refine O_store hS rfl rfl rfl rfl (Nat.le_of_ble_eq_true rfl) (fun w hS => ?_)
                  refine O_end ?_
                  exact ⟨⟨o.k, o.c, o.s, o.nm, o.p, IntKind.i64.wrap (o.e + 1), o.t, o.q, o.cm⟩, by show o.nm.length ≤ 100; omega, ⟨rfl, rfl, trivial⟩, hS⟩
        · skip
          rintro σ w ⟨p, hpl, hs, hS⟩
          refine W_weak [(2, .pointer (some ⟨b2, 0, none⟩)), (5, .pointer (some ⟨b5, 0, none⟩))] hs ?_
          refine W_seq ?_
          refine W_region ?_
          refine O_loadAgg (vs := o.cs) rfl rfl rfl rfl rfl hS.f1.rdAll ?_
          have hcall := encodeOp_spec (w0 := w) (o := o)
          rw [hm, if_pos rfl, if_pos rfl] at hcall
          refine O_call rfl rfl rfl hcall (fun r w ⟨v1, G1, hz, hG1, hk⟩ => ?_)
          subst hz
          have hS := (hS.after0 hk).drop
          refine O_move rfl rfl rfl ?_
          refine O_extract rfl rfl rfl rfl ?_
          refine O_extract rfl rfl rfl rfl ?_
          refine O_assign rfl rfl rfl ?_
          refine O_assign rfl rfl rfl ?_
          refine O_end ?_
          refine W_seq ?_
          refine W_region ?_
          refine O_loadAgg (vs := p.cs) rfl rfl rfl rfl rfl hS.rdAll ?_
          have hcall := encodeOp_spec (w0 := w) (o := p)
          refine O_call rfl rfl rfl hcall (fun r w ⟨v2, G2, hz, hG2, hk⟩ => ?_)
          subst hz
          have hS := (hS.after0 hk).drop
          refine O_move rfl rfl rfl ?_
          refine O_extract rfl rfl rfl rfl ?_
          refine O_extract rfl rfl rfl rfl ?_
          refine O_assign rfl rfl rfl ?_
          refine O_assign rfl rfl rfl ?_
          refine O_end ?_
          refine W_seq ?_
          refine W_region ?_
          refine O_move rfl rfl rfl ?_
          refine O_bin rfl rfl rfl rfl rfl ?_
          refine O_move rfl rfl rfl ?_
          refine O_know 63 (.bool true) rfl (congrArg Value.bool (rfl)) ?_
          refine O_move rfl rfl rfl ?_
          refine O_bin rfl rfl rfl rfl rfl ?_
          refine O_know 65 (.bool (opok p)) rfl (congrArg Value.bool (bit0 _)) ?_
          refine O_loadAgg (vs := p.cs) rfl rfl rfl rfl rfl hS.rdAll ?_
          have hcall := IsOp_spec (w0 := w) (o := p) (by omega)
          refine O_call rfl rfl rfl hcall (fun r w ⟨hz, hk⟩ => ?_)
          subst hz
          have hS := hS.after0 hk
          refine O_eql_bool rfl rfl rfl rfl ?_
          refine O_know 68 (.bool true) rfl (congrArg Value.bool (beqself _)) ?_
          first | refine O_pick_true rfl rfl rfl rfl ?_ | refine O_pick_false rfl rfl rfl rfl ?_
          refine O_move rfl rfl rfl ?_
          refine O_know 70 (.bool true) rfl (congrArg Value.bool (rfl)) ?_
          refine O_move rfl rfl rfl ?_
          refine O_bin rfl rfl rfl rfl rfl ?_
          refine O_know 72 (.bool (opok p)) rfl (congrArg Value.bool (bit0 _)) ?_
          refine O_move rfl rfl rfl ?_
          refine O_part 73 rfl (fun c73 => ?_) (fun c73 => ?_)
          · skip
            refine O_skip rfl rfl ?_
            refine O_skip rfl rfl ?_
            first | refine O_pick_true rfl rfl rfl rfl ?_ | refine O_pick_false rfl rfl rfl rfl ?_
            first | refine O_pick_true rfl rfl rfl rfl ?_ | refine O_pick_false rfl rfl rfl rfl ?_
            refine O_move rfl rfl rfl ?_
            refine O_know 78 (.bool true) rfl (congrArg Value.bool (rfl)) ?_
            have hcall := known_spec (w0 := w)
            refine O_call rfl rfl rfl hcall (fun r w ⟨hz, hk⟩ => ?_)
            subst hz
            have hS := hS.after0 hk
            first | refine O_pick_true rfl rfl rfl rfl ?_ | refine O_pick_false rfl rfl rfl rfl ?_
            refine O_assign rfl rfl rfl ?_
            refine O_end ?_
            refine W_ret ⟨_, rfl, ?_⟩
            exact ⟨rfl, _, hS⟩
          · skip
            refine O_move rfl rfl rfl ?_
            refine O_bin rfl rfl rfl rfl rfl ?_
            refine O_know 75 (.bool (!opok p)) rfl (congrArg Value.bool (bit1 _)) ?_
            first | refine O_pick_true rfl rfl rfl rfl ?_ | refine O_pick_false rfl rfl rfl rfl ?_
            first | refine O_pick_true rfl rfl rfl rfl ?_ | refine O_pick_false rfl rfl rfl rfl ?_
            refine O_move rfl rfl rfl ?_
            refine O_know 78 (.bool true) rfl (congrArg Value.bool ((by rw [c73]; rfl))) ?_
            have hcall := known_spec (w0 := w)
            refine O_call rfl rfl rfl hcall (fun r w ⟨hz, hk⟩ => ?_)
            subst hz
            have hS := hS.after0 hk
            first | refine O_pick_true rfl rfl rfl rfl ?_ | refine O_pick_false rfl rfl rfl rfl ?_
            refine O_assign rfl rfl rfl ?_
            refine O_end ?_
            refine W_ret ⟨_, rfl, ?_⟩
            exact ⟨rfl, _, hS⟩

set_option maxHeartbeats 1000000 in
theorem wireCut_spec {w0 : World} {o : Opr} {B : Option Addr} {more : List UInt8} {c : Nat} {cut : Int} (hl : o.nm.length ≤ 9223372036854775807) (hr : Rd w0 B (bvs more)) : Calls Tryd.prog 4 #[.agg o.cs.toArray, .slice B more.length c, .int .i64 cut] w0 (Ret fun r w => r = .bool true ∧ ∃ Gs, St w0 [] Gs w) := by
  have hS : Own [] w0 := St.start w0
  refine calls_enter (l := [.agg o.cs.toArray, .slice B more.length c, .int .i64 cut]) Tryd.func4 rfl Tryd.ntmps4 Tryd.results4 (Nat.le_of_ble_eq_true rfl) ?_
  refine W_seq ?_
  refine W_region ?_
  refine O_box hS rfl rfl rfl (fun b3 w hS => ?_)
  refine O_assign rfl rfl rfl ?_
  refine O_end ?_
  refine W_seq ?_
  refine W_seq ?_
  refine W_region ?_
  refine O_loadAgg (vs := o.cs) rfl rfl rfl rfl rfl hS.rdAll ?_
  have hcall := IsOp_spec (w0 := w) (o := o) hl
  refine O_call rfl rfl rfl hcall (fun r w ⟨hz, hk⟩ => ?_)
  subst hz
  have hS := hS.after0 hk
  refine O_not rfl rfl rfl ?_
  refine O_move rfl rfl rfl ?_
  refine O_part 16 rfl (fun c16 => ?_) (fun c16 => ?_)
  · skip
    refine O_skip rfl rfl ?_
    refine O_skip rfl rfl ?_
    refine O_skip rfl rfl ?_
    first | refine O_pick_true rfl rfl rfl rfl ?_ | refine O_pick_false rfl rfl rfl rfl ?_
    refine O_move rfl rfl rfl ?_
    refine O_know 21 (.bool true) rfl (congrArg Value.bool (rfl)) ?_
    refine O_skip rfl rfl ?_
    refine O_skip rfl rfl ?_
    refine O_skip rfl rfl ?_
    first | refine O_pick_true rfl rfl rfl rfl ?_ | refine O_pick_false rfl rfl rfl rfl ?_
    refine O_end ?_
    refine W_if_true rfl (rfl) ?_
    refine W_seq ?_
    refine W_region ?_
    refine O_assign rfl rfl rfl ?_
    refine O_end ?_
    refine W_ret ⟨_, rfl, ?_⟩
    exact ⟨rfl, _, hS⟩
  · skip
    refine O_move rfl rfl rfl ?_
    refine O_len rfl rfl rfl rfl ?_
    refine O_bin rfl rfl rfl rfl rfl ?_
    first | refine O_pick_true rfl rfl rfl rfl ?_ | refine O_pick_false rfl rfl rfl rfl ?_
    refine O_move rfl rfl rfl ?_
    refine O_part 21 rfl (fun c21 => ?_) (fun c21 => ?_)
    · skip
      refine O_skip rfl rfl ?_
      refine O_skip rfl rfl ?_
      refine O_skip rfl rfl ?_
      first | refine O_pick_true rfl rfl rfl rfl ?_ | refine O_pick_false rfl rfl rfl rfl ?_
      refine O_end ?_
      refine W_if_true rfl (rfl) ?_
      refine W_seq ?_
      refine W_region ?_
      refine O_assign rfl rfl rfl ?_
      refine O_end ?_
      refine W_ret ⟨_, rfl, ?_⟩
      exact ⟨rfl, _, hS⟩
    · skip
      refine O_move rfl rfl rfl ?_
      refine O_len rfl rfl rfl rfl ?_
      refine O_bin rfl rfl rfl rfl rfl ?_
      first | refine O_pick_true rfl rfl rfl rfl ?_ | refine O_pick_false rfl rfl rfl rfl ?_
      refine O_end ?_
      refine W_if rfl (fun c25 => ?_) (fun c25 => ?_)
      · skip
        refine W_seq ?_
        refine W_region ?_
        refine O_assign rfl rfl rfl ?_
        refine O_end ?_
        refine W_ret ⟨_, rfl, ?_⟩
        exact ⟨rfl, _, hS⟩
      · skip
        refine W_skip ?_
        refine W_seq ?_
        refine W_region ?_
        have hm : opok o = true := by simpa using c16
        have hl8 := opok_len hm
        have hbl := opb_len (o := o) (by omega)
        have hpos : 0 < (opb o).length := by unfold opb; rw [encs_cons]; have := enc_pos (clampN 2); simp only [List.length_append]; omega
        have hlen : (((opb o).length : Int) == 0) = false := by rw [beq_eq_false_iff_ne]; omega
        have hm1 : 1 ≤ more.length := by have := of_decide_eq_false c21; omega
        have hm2 : more.length ≤ 100 := by have := of_decide_eq_false c25; omega
        refine O_loadAgg (vs := o.cs) rfl rfl rfl rfl rfl hS.rdAll ?_
        have hcall := encodeOp_spec (w0 := w) (o := o)
        rw [hm, if_pos rfl, if_pos rfl] at hcall
        refine O_call rfl rfl rfl hcall (fun r w ⟨v1, G1, hz, hG1, hk⟩ => ?_)
        subst hz
        have hS := hS.after0 hk
        obtain ⟨A1, c1, rfl, hc1, _⟩ := hG1.form
        refine O_move rfl rfl rfl ?_
        refine O_extract rfl rfl rfl rfl ?_
        refine O_extract rfl rfl rfl rfl ?_
        refine O_assign rfl rfl rfl ?_
        refine O_assign rfl rfl rfl ?_
        refine O_end ?_
        refine W_seq ?_
        refine W_seq ?_
        refine W_region ?_
        refine O_move rfl rfl rfl ?_
        refine O_bin rfl rfl rfl rfl rfl ?_
        refine O_move rfl rfl rfl ?_
        refine O_know 33 (.bool false) rfl (congrArg Value.bool (rfl)) ?_
        refine O_move rfl rfl rfl ?_
        refine O_len rfl rfl rfl rfl ?_
        refine O_bin rfl rfl rfl rfl rfl ?_
        first | refine O_pick_true rfl rfl rfl rfl ?_ | refine O_pick_false rfl rfl rfl rfl ?_
        refine O_end ?_
        refine W_if_false rfl (hlen) ?_
        refine W_skip ?_
        refine W_seq ?_
        refine W_region ?_
        refine O_lit hS rfl rfl rfl rfl rfl rfl (Nat.le_of_ble_eq_true rfl) (fun b39 w hS => ?_)
        refine O_move rfl rfl rfl ?_
        have hn := own_bytes2 hG1 hS.f1
        refine O_append hS (Row.made (size := 1) (by simp [maxLen]) (Nat.zero_le _)) rfl rfl (by decide) rfl rfl rfl (news := bvs (opb o)) (by simp) hn (bvs_one _) (by omega) (by unfold maxLen; omega) (fun v3 R3 w hR3 hS => ?_)
        have hR3' : BRow v3 (opb o) R3 := by simpa [BRow] using hR3
        refine O_move rfl rfl rfl ?_
        refine O_append hS hR3' rfl rfl (by decide) rfl rfl rfl (news := bvs more) (by simp) (hS.rd hr (Apart.of_nil _ _)) (bvs_one _) (by omega) (by unfold maxLen; omega) (fun v4 R4 w hR4 hS => ?_)
        have hR4 := brow_append hR4 rfl
        obtain ⟨A4, c4, rfl, _⟩ := hR4.form
        have hn4 := own_bytes2 hR4 hS
        have hcall := decodeOp_spec (c := c4) hn4 (by rw [List.length_append]; omega)
        rw [op_more hm (by omega)] at hcall
        refine O_call rfl rfl rfl hcall (fun r w ⟨hz, hk⟩ => ?_)
        subst hz
        have hS := hS.after0 hk
        refine O_move rfl rfl rfl ?_
        refine O_extract rfl rfl rfl rfl ?_
        refine O_extract rfl rfl rfl rfl ?_
        refine O_alloc hS rfl rfl (fun b9 w hS => ?_)
        refine O_storeAgg hS rfl rfl rfl rfl rfl (Nat.le_of_ble_eq_true rfl) (fun w hS => ?_)
        have hS := hS.drop.drop
        refine O_assign rfl rfl rfl ?_
        refine O_end ?_
        refine W_seq ?_
        refine W_region ?_
        refine O_move rfl rfl rfl ?_
        refine O_move rfl rfl rfl ?_
        obtain ⟨m, hm1, hm2⟩ := and_mask16 cut
        refine O_bin rfl rfl rfl rfl hm2 ?_
        refine O_move rfl rfl rfl ?_
        refine O_len rfl rfl rfl rfl ?_
        refine O_rem rfl rfl rfl rfl hpos ?_
        have hk0 := Nat.mod_lt m hpos
        obtain ⟨j, hj⟩ : ∃ j, j = m % (opb o).length := ⟨_, rfl⟩
        refine O_know 53 (.int .i64 (j : Int)) rfl (by rw [hj]) ?_
        rw [← hj] at hk0
        refine O_slice_to rfl rfl rfl rfl (by omega) ?_
        have hn5 : Rd w A1 (bvs ((opb o).take j)) := by rw [bvs_take]; exact (own_bytes2 hG1 hS).take j
        have hlj : ((opb o).take j).length = j := by rw [List.length_take]; omega
        have hcall := decodeOp_spec (c := c1) hn5 (by omega)
        rw [op_cut hm hk0, hlj] at hcall
        refine O_call rfl rfl rfl hcall (fun r w ⟨hz, hk⟩ => ?_)
        subst hz
        have hS := hS.after0 hk
        refine O_move rfl rfl rfl ?_
        refine O_extract rfl rfl rfl rfl ?_
        refine O_extract rfl rfl rfl rfl ?_
        refine O_alloc hS rfl rfl (fun b11 w hS => ?_)
        refine O_storeAgg hS rfl rfl rfl rfl rfl (Nat.le_of_ble_eq_true rfl) (fun w hS => ?_)
        refine O_assign rfl rfl rfl ?_
        refine O_end ?_
        refine W_seq ?_
        refine W_region ?_
        refine O_move rfl rfl rfl ?_
        refine O_bin rfl rfl rfl rfl rfl ?_
        refine O_move rfl rfl rfl ?_
        refine O_know 60 (.bool true) rfl (congrArg Value.bool (rfl)) ?_
        refine O_move rfl rfl rfl ?_
        refine O_bin rfl rfl rfl rfl rfl ?_
        first | refine O_pick_true rfl rfl rfl rfl ?_ | refine O_pick_false rfl rfl rfl rfl ?_
        refine O_move rfl rfl rfl ?_
        refine O_know 64 (.bool true) rfl (congrArg Value.bool (rfl)) ?_
        have hcall := known_spec (w0 := w)
        refine O_call rfl rfl rfl hcall (fun r w ⟨hz, hk⟩ => ?_)
        subst hz
        have hS := hS.after0 hk
        first | refine O_pick_true rfl rfl rfl rfl ?_ | refine O_pick_false rfl rfl rfl rfl ?_
        refine O_assign rfl rfl rfl ?_
        refine O_end ?_
        refine W_ret ⟨_, rfl, ?_⟩
        exact ⟨rfl, _, hS⟩

end Go.Proofs.YtaglgnjamihdnaaDoor.R
