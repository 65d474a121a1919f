/- Rows as bytes, all at once or one by one, and back: the law's walk. -/
import Derived.Test.YtnbkeiekoncpnaaOi
namespace Go.Proofs.Ytnbkeiekoncpnaa.R
open Go Go.RowKit Go.Proofs
set_option linter.unusedVariables false
set_option linter.unusedSimpArgs false
set_option maxRecDepth 20000

theorem encRows_drop (rows : List (List UInt8)) (j : Nat) (hj : j < rows.length) : encRows (rows.drop j) = enc rows[j].length ++ (rows[j] ++ encRows (rows.drop (j + 1))) := by
  unfold encRows
  rw [List.drop_eq_getElem_cons hj, List.flatMap_cons, encRow, List.append_assoc]
theorem rbytes_enc (x r : List UInt8) (h : x.length ≤ 4611686018427387904) : rbytes (some (enc x.length ++ (x ++ r))) = (x, some r) := by
  unfold rbytes
  rw [rnum_enc x.length (x ++ r) h]
  unfold rraw
  dsimp only
  rw [if_neg (by simp; omega), Int.toNat_natCast, List.take_left, List.drop_left]
theorem encRows_drop_len (rows : List (List UInt8)) (j : Nat) (h : wt rows ≤ 4611686018427387904) : (encRows (rows.drop j)).length ≤ wt rows := by
  have h1 : wt (rows.drop j) ≤ wt rows := by
    have := congrArg wt (List.take_append_drop j rows)
    rw [wt_append] at this
    omega
  have := encRows_len (rows.drop j) (by omega)
  omega
theorem encRows_take_le (rows : List (List UInt8)) (j : Nat) (h : wt rows ≤ 4611686018427387904) : (encRows (rows.take j)).length ≤ wt rows := by
  have h1 : wt (rows.take j) ≤ wt rows := by
    have := congrArg wt (List.take_append_drop j rows)
    rw [wt_append] at this
    omega
  have := encRows_len (rows.take j) (by omega)
  omega
theorem wt_take_le (rows : List (List UInt8)) (j : Nat) : wt (rows.take j) ≤ wt rows := by
  have := congrArg wt (List.take_append_drop j rows)
  rw [wt_append] at this
  omega

set_option maxHeartbeats 1600000 in
theorem octetRows_spec {w0 : World} {A B : Option Addr} {rows : List (List UInt8)} {raw : List UInt8} {c d : Nat} (hr : RdB w0 A rows []) (hb : Rd w0 B (bvs raw)) :
    Calls Try.prog 7 #[.slice A rows.length c, .slice B raw.length d] w0 (Ret fun r w => r = .bool true ∧ ∃ Gs, St w0 [] Gs w) := by
  have hS : Own [] w0 := St.start w0
  refine calls_enter (l := [.slice A rows.length c, .slice B raw.length d]) Try.func7 rfl Try.ntmps7 Try.results7 (Nat.le_of_ble_eq_true rfl) ?_
  refine W_seq ?_
  refine W_region ?_
  refine O_assign rfl rfl rfl ?_
  refine O_end ?_
  refine W_seq ?_
  refine W_seq ?_
  refine W_region ?_
  refine O_move rfl rfl rfl ?_
  have hcall := heavy_spec (c := c) hr
  refine O_call rfl rfl rfl hcall (fun r w ⟨hr1, hk⟩ => ?_)
  subst hr1
  have hS := hS.after0 hk
  refine O_move rfl rfl rfl ?_
  refine O_part 15 rfl (fun c15 => ?_) (fun c15 => ?_)
  · skip
    refine O_skip rfl rfl ?_
    refine O_skip rfl rfl ?_
    refine O_skip rfl rfl ?_
    first | refine O_pick_true rfl rfl rfl rfl ?_ | refine O_pick_false rfl rfl rfl rfl ?_
    refine O_end ?_
    refine W_if_true rfl (rfl) ?_
    refine W_seq ?_
    refine W_region ?_
    refine O_assign rfl rfl rfl ?_
    refine O_end ?_
    refine W_ret ⟨_, rfl, ?_⟩
    exact ⟨rfl, _, hS⟩
  · skip
    refine O_move rfl rfl rfl ?_
    refine O_len rfl rfl rfl rfl ?_
    refine O_bin rfl rfl rfl rfl rfl ?_
    first | refine O_pick_true rfl rfl rfl rfl ?_ | refine O_pick_false rfl rfl rfl rfl ?_
    refine O_end ?_
    refine W_if rfl (fun c19 => ?_) (fun c19 => ?_)
    · skip
      refine W_seq ?_
      refine W_region ?_
      refine O_assign rfl rfl rfl ?_
      refine O_end ?_
      refine W_ret ⟨_, rfl, ?_⟩
      exact ⟨rfl, _, hS⟩
    · skip
      refine W_skip ?_
      refine W_seq ?_
      refine W_region ?_
      refine O_alloc hS rfl rfl (fun b5 w hS => ?_)
      refine O_alloc hS rfl rfl (fun b6 w hS => ?_)
      have hS : St w0 [] [wcell b5 (.slice none 0 0), [], wcell b6 (.slice none 0 0)] w := hS.empty.f2
      have hw := heavy_wt c15
      have hwl := wt_length rows
      have hraw : raw.length ≤ 4000 := by have := of_decide_eq_false c19; omega
      refine O_end ?_
      refine W_seq ?_
      refine W_region ?_
      refine O_assign rfl rfl rfl ?_
      refine O_end ?_
      refine W_seq ?_
      refine W_seq ?_
      refine W_region ?_
      refine O_assign rfl rfl rfl ?_
      refine O_end ?_
      refine W_block ?_
      refine W_loop (ι := Nat × Value × List Chunk × Value × List Chunk) (fun i => [(0, .slice A rows.length c), (1, .slice B raw.length d), (5, .pointer (some ⟨b5, 0, none⟩)), (6, .pointer (some ⟨b6, 0, none⟩)), (7, i.2.2.2.1), (8, .int .i64 (i.1 : Nat))])
          (fun i w => i.1 ≤ rows.length ∧ BRow i.2.1 (encRows (rows.take i.1)) i.2.2.1 ∧ BRow i.2.2.2.1 (encRows (rows.take i.1)) i.2.2.2.2 ∧ St w0 [] [wcell b5 i.2.1, i.2.2.1, i.2.2.2.2, wcell b6 (.slice none 0 0)] w) (fun i => rows.length - i.1)
          (0, .slice none 0 0, [], .slice none 0 0, []) ⟨rfl, rfl, rfl, rfl, rfl, rfl, trivial⟩ ⟨Nat.zero_le _, Row.nil _ _, Row.nil _ _, hS.empty.f2.f2⟩ ?_
      rintro ⟨i, v1, R1, v7, R7⟩ w ⟨hi, hR1, hR7, hS⟩
      dsimp only at hi hR1 hR7 hS ⊢
      refine W_seq ?_
      refine W_seq ?_
      refine W_region ?_
      refine O_move rfl rfl rfl ?_
      refine O_move rfl rfl rfl ?_
      refine O_len rfl rfl rfl rfl ?_
      refine O_bin rfl rfl rfl rfl rfl ?_
      refine O_end ?_
      refine W_if rfl (fun c23 => ?_) (fun c23 => ?_)
      · skip
        refine W_skip ?_
        refine W_seq ?_
        refine W_block ?_
        refine W_seq ?_
        refine W_region ?_
        refine O_move rfl rfl rfl ?_
        refine O_move rfl rfl rfl ?_
        have hlt : i < rows.length := by have := of_decide_eq_true c23; omega
        obtain ⟨vs, Ai, ci, hv1, hv2, hv3, hv4, hv5⟩ := hr.at i hlt
        have hw1 := wt_take rows i hlt
        refine O_indexRd rfl rfl rfl rfl (hS.rd hv1 hv2) (by simpa using hv3) hlt (fun ad hA hc => ?_)
        refine O_load rfl rfl rfl rfl hc ?_
        have hcall := roomy_spec (c := ci) (hS.rd hv4 hv5) (by omega)
        refine O_call rfl rfl rfl hcall (fun r w ⟨G9, hG9, hk⟩ => ?_)
        have hS := hS.after0 hk
        obtain ⟨A9, c9, rfl, hc9, hc9m⟩ := hG9.form
        rw [List.length_append, List.length_singleton] at hc9
        refine O_assign rfl rfl rfl ?_
        refine O_end ?_
        refine W_seq ?_
        refine W_region ?_
        refine O_move rfl rfl rfl ?_
        refine O_move rfl rfl rfl ?_
        refine O_move rfl rfl rfl ?_
        refine O_indexRd rfl rfl rfl rfl (hS.rd hv1 hv2) (by simpa using hv3) hlt (fun ad hA hc => ?_)
        refine O_load rfl rfl rfl rfl hc ?_
        refine O_len rfl rfl rfl rfl ?_
        refine O_slice_to rfl rfl rfl rfl (by omega) ?_
        refine O_lit hS rfl rfl rfl rfl rfl rfl (Nat.le_of_ble_eq_true rfl) (fun b38 w hS => ?_)
        have hn1 := hS.rdAll
        have ha1 := hS.apart_first (off := 0) (sp := none) (vs := [.slice A9 rows[i].length c9])
        have hS := hS.f1
        obtain ⟨_, _, hq, _, _, hn2, ha2⟩ := hG9.rd hS
        cases hq
        have hn3 : Rd w A9 (bvs rows[i]) := by
          have := hn2.take rows[i].length
          rwa [← bvs_take, List.take_left] at this
        have hS := hS.f3.f3
        have hb1 : RdB w (some ⟨b38, 0, none⟩) [rows[i]] (idsOf [wcell b5 v1, R1]) := RdB.one hn1 rfl (ha1.sub (ids_sub (by simp))) hn3
          (ha2.sub' (by simp [bvs]) (ids_sub (by simp)))
        have hlen1 := encRows_take_le rows i (by omega)
        have hbs := bytes_spec (c := 1) hS.own2 hR1 hb1 (by simp only [wt, List.map_cons, List.map_nil, List.sum_cons, List.sum_nil]; omega)
        refine O_call rfl rfl rfl hbs (fun r w ⟨_, v1, R1, hR1, hk⟩ => ?_)
        have hS := hS.after2 hk
        have hS := hS.f3.drop.f2
        rw [show encRows [rows[i]] = encRow rows[i] from by simp [encRows], ← encRows_snoc rows i hlt] at hR1
        refine O_end ?_
        refine W_seq ?_
        refine W_seq ?_
        refine W_region ?_
        refine O_move rfl rfl rfl ?_
        refine O_move rfl rfl rfl ?_
        refine O_move rfl rfl rfl ?_
        refine O_indexRd rfl rfl rfl rfl (hS.rd hv1 hv2) (by simpa using hv3) hlt (fun ad hA hc => ?_)
        refine O_load rfl rfl rfl rfl hc ?_
        obtain ⟨_, _, hq, _, _, hn2, _⟩ := hG9.rd hS
        cases hq
        have hst1 := stands_spec (c := c9) (d := ci) hn2 (hS.rd hv4 hv5) (by rw [List.length_append, List.length_singleton]; omega) (by omega) (by rw [List.length_append, List.length_singleton]; omega)
        refine O_call rfl rfl rfl hst1 (fun r w ⟨hr1, hk⟩ => ?_)
        subst hr1
        have hS := hS.after0 hk
        have hst : (!decide (rows[i] ++ [171] = rows[i] ++ [171])) = false := by simp
        refine O_not rfl rfl rfl ?_
        refine O_end ?_
        refine W_if_false rfl (hst) ?_
        refine W_skip ?_
        refine W_seq ?_
        refine W_region ?_
        refine O_move rfl rfl rfl ?_
        have hcall := spoil_spec hS.own1 hG9 (by rw [List.length_append, List.length_singleton]; omega)
        refine O_call rfl rfl rfl hcall (fun r w ⟨hr1, G92, hk⟩ => ?_)
        have hS := (hS.after1 hk).drop
        refine O_end ?_
        refine W_region ?_
        refine O_move rfl rfl rfl ?_
        refine O_move rfl rfl rfl ?_
        refine O_move rfl rfl rfl ?_
        refine O_indexRd rfl rfl rfl rfl (hS.rd hv1 hv2) (by simpa using hv3) hlt (fun ad hA hc => ?_)
        refine O_load rfl rfl rfl rfl hc ?_
        have hcall := refBytes_spec (c := ci) (hS.rd hv4 hv5) (by omega)
        refine O_call rfl rfl rfl hcall (fun r w ⟨G54, hG54, hk⟩ => ?_)
        have hS := hS.after0 hk
        obtain ⟨A54, c54, rfl, _⟩ := hG54.form
        obtain ⟨_, _, hq, _, _, hn5, _⟩ := hG54.rd hS
        cases hq
        have hS := hS.f3
        have hel := encRow_len rows[i] (by omega)
        refine O_append hS hR7 rfl rfl (by decide) rfl rfl rfl (news := bvs (encRow rows[i])) (by simp) hn5 (bvs_one _) (by have := encRows_take_le rows i (by omega); omega) (by have := encRows_take_le rows i (by omega); unfold maxLen; omega) (fun v7 R7 w hR7 hS => ?_)
        have hS := hS.f1.drop.f2.f2
        refine O_assign rfl rfl rfl ?_
        refine O_end ?_
        refine W_region ?_
        refine O_move rfl rfl rfl ?_
        refine O_bin rfl rfl rfl rfl (i64_succ i (by omega)) ?_
        refine O_assign rfl rfl rfl ?_
        refine O_end ?_
        refine ⟨(i + 1, v1, R1, v7, R7), ⟨rfl, rfl, rfl, rfl, rfl, rfl, trivial⟩, ⟨hlt, hR1, ?_, hS⟩, by dsimp only; omega⟩
        dsimp only
        rw [encRows_snoc rows i hlt]
        exact brow_append hR7 rfl
      · skip
        refine W_exit ?_
        refine W_seq ?_
        refine W_region ?_
        have hi' : i = rows.length := by have := of_decide_eq_false c23; omega
        rw [hi', List.take_length] at hR1 hR7
        refine O_move rfl rfl rfl ?_
        have hS := hS.f3.empty.f1
        have hlen1 := encRows_len rows (by omega)
        have hbs := bytes_spec (bs := []) (c := c) hS.own2 (Row.nil _ _) (hr.hand hS (ids_sub (by simp))) (by simp; omega)
        refine O_call rfl rfl rfl hbs (fun r w ⟨_, v2, R2, hR2, hk⟩ => ?_)
        have hS := (hS.after2 hk).f3.f3
        rw [List.nil_append] at hR2
        refine O_end ?_
        refine W_seq ?_
        refine W_region ?_
        refine O_move rfl rfl rfl ?_
        have hcall := raw_spec (c := d) hS.own2 hR1 (hS.rd hb (Apart.of_nil _ _)) (by omega)
        refine O_call rfl rfl rfl hcall (fun r w ⟨_, v1, R1, hR1, hk⟩ => ?_)
        have hS := (hS.after2 hk).f3.f3
        refine O_end ?_
        refine W_seq ?_
        refine W_region ?_
        refine O_move rfl rfl rfl ?_
        have hcall := raw_spec (c := d) hS.own2 hR2 (hS.rd hb (Apart.of_nil _ _)) (by omega)
        refine O_call rfl rfl rfl hcall (fun r w ⟨_, v2, R2, hR2, hk⟩ => ?_)
        have hS := (hS.after2 hk).f4
        refine O_end ?_
        refine W_seq ?_
        refine W_region ?_
        refine O_move rfl rfl rfl ?_
        refine O_move rfl rfl rfl ?_
        refine O_append hS hR7 rfl rfl (by decide) rfl rfl rfl (news := bvs raw) (by simp) (hS.rd hb (Apart.of_nil _ _)) (bvs_one _) (by omega) (by unfold maxLen; omega) (fun v7 R7 w hR7 hS => ?_)
        have hR7 := brow_append hR7 rfl
        have hS := hS.f4.f4
        obtain ⟨A7, c7, rfl, _⟩ := hR7.form
        refine O_assign rfl rfl rfl ?_
        refine O_end ?_
        refine W_seq ?_
        refine W_seq ?_
        refine W_region ?_
        have hcall := out_spec hS.own2 hR1 (by rw [List.length_append]; omega)
        refine O_call rfl rfl rfl hcall (fun r w ⟨G65, hG65, hk⟩ => ?_)
        have hS := hS.after2 hk
        obtain ⟨A65, c65, rfl, _⟩ := hG65.form
        refine O_move rfl rfl rfl ?_
        obtain ⟨_, _, hq, _, _, hn1, _⟩ := hG65.rd hS
        cases hq
        obtain ⟨_, _, hq, _, _, hn7, _⟩ := hR7.rd hS.f3
        cases hq
        have hsm := same_spec (c := c65) (d := c7) hn1 hn7 (by rw [List.length_append]; omega)
        refine O_call rfl rfl rfl hsm (fun r w ⟨hr1, hk⟩ => ?_)
        subst hr1
        have hS := (hS.after0 hk).drop.f4.f4
        have hs1 : (!decide (encRows rows ++ raw = encRows rows ++ raw)) = false := by simp
        refine O_not rfl rfl rfl ?_
        refine O_move rfl rfl rfl ?_
        refine O_know 69 (.bool false) rfl (congrArg Value.bool (hs1)) ?_
        have hcall := out_spec hS.own2 hR2 (by rw [List.length_append]; omega)
        refine O_call rfl rfl rfl hcall (fun r w ⟨G70, hG70, hk⟩ => ?_)
        have hS := hS.after2 hk
        obtain ⟨A70, c70, rfl, _⟩ := hG70.form
        refine O_move rfl rfl rfl ?_
        obtain ⟨_, _, hq, _, _, hn1, _⟩ := hG70.rd hS
        cases hq
        obtain ⟨_, _, hq, _, _, hn7, _⟩ := hR7.rd hS.f5
        cases hq
        have hsm := same_spec (c := c70) (d := c7) hn1 hn7 (by rw [List.length_append]; omega)
        refine O_call rfl rfl rfl hsm (fun r w ⟨hr1, hk⟩ => ?_)
        subst hr1
        have hS := (hS.after0 hk).drop
        have hs2 : (!decide (encRows rows ++ raw = encRows rows ++ raw)) = false := by simp
        refine O_not rfl rfl rfl ?_
        first | refine O_pick_true rfl rfl rfl rfl ?_ | refine O_pick_false rfl rfl rfl rfl ?_
        refine O_end ?_
        refine W_if_false rfl (hs2) ?_
        refine W_skip ?_
        refine W_seq ?_
        refine W_region ?_
        refine O_move rfl rfl rfl ?_
        obtain ⟨_, _, hq, _, _, hn7, _⟩ := hR7.rd hS.f4
        cases hq
        have hnr := newReader_spec (c := c7) hn7 (by rw [List.length_append]; omega)
        refine O_call rfl rfl rfl hnr (fun r w ⟨r1, v10, G10, hx, hV, hk⟩ => ?_)
        subst hx
        have hS := hS.after0 hk
        refine O_assign rfl rfl rfl ?_
        refine O_end ?_
        refine W_seq ?_
        refine W_seq ?_
        refine W_region ?_
        refine O_move rfl rfl rfl ?_
        refine O_eql_ptr rfl rfl rfl ?_
        refine O_end ?_
        refine W_if_false rfl (rfl) ?_
        refine W_skip ?_
        refine W_seq ?_
        refine W_seq ?_
        refine W_region ?_
        refine O_assign rfl rfl rfl ?_
        refine O_end ?_
        refine W_block ?_
        refine W_loop (ι := Nat × Value × Bool) (fun i => [(0, .slice A rows.length c), (1, .slice B raw.length d), (10, .pointer (some ⟨r1, 0, none⟩)), (11, .int .i64 (i.1 : Nat))])
            (fun i w => i.1 ≤ rows.length ∧ RView i.2.1 i.2.2 (some (encRows (rows.drop i.1) ++ raw)) G10 ∧ ∃ Gs, St w0 [] ([rcell r1 i.2.1 i.2.2, G10] ++ Gs) w) (fun i => rows.length - i.1) (0, v10, false) ⟨rfl, rfl, rfl, rfl, trivial⟩ ⟨Nat.zero_le _, hV, _, hS⟩ ?_
        rintro ⟨i, v10, b10⟩ w ⟨hi, hV, Gs, hS⟩
        dsimp only at hi hV hS ⊢
        refine W_seq ?_
        refine W_seq ?_
        refine W_region ?_
        refine O_move rfl rfl rfl ?_
        refine O_move rfl rfl rfl ?_
        refine O_len rfl rfl rfl rfl ?_
        refine O_bin rfl rfl rfl rfl rfl ?_
        refine O_end ?_
        refine W_if rfl (fun c82 => ?_) (fun c82 => ?_)
        · skip
          refine W_skip ?_
          refine W_seq ?_
          refine W_block ?_
          refine W_seq ?_
          refine W_region ?_
          refine O_move rfl rfl rfl ?_
          have hlt : i < rows.length := by have := of_decide_eq_true c82; omega
          obtain ⟨vs, Ai, ci, hv1, hv2, hv3, hv4, hv5⟩ := hr.at i hlt
          have hw1 := wt_take rows i hlt
          have hdl := encRows_drop_len rows i (by omega)
          have hrb := rbytes_spec hS.own2 hV (by show (encRows (rows.drop i) ++ raw).length ≤ _; rw [List.length_append]; omega)
          rw [encRows_drop rows i hlt, List.append_assoc, List.append_assoc, rbytes_enc rows[i] _ (by omega)] at hrb
          refine O_call rfl rfl rfl hrb (fun r w ⟨v10, b10, G12, hG12, hV, hk⟩ => ?_)
          have hS := hS.after2 hk
          obtain ⟨A12, c12, rfl, _⟩ := hG12.form
          refine O_assign rfl rfl rfl ?_
          refine O_end ?_
          refine W_seq ?_
          refine W_seq ?_
          refine W_region ?_
          refine O_move rfl rfl rfl ?_
          refine O_move rfl rfl rfl ?_
          refine O_move rfl rfl rfl ?_
          refine O_indexRd rfl rfl rfl rfl (hS.rd hv1 hv2) (by simpa using hv3) hlt (fun ad hA hc => ?_)
          refine O_load rfl rfl rfl rfl hc ?_
          obtain ⟨_, _, hq, _, _, hn1, _⟩ := hG12.rd hS
          cases hq
          have hsm := same_spec (c := c12) (d := ci) hn1 (hS.rd hv4 hv5) (by show rows[i].length ≤ _; omega)
          refine O_call rfl rfl rfl hsm (fun r w ⟨hr1, hk⟩ => ?_)
          subst hr1
          have hS := hS.after0 hk
          have hs3 : (!decide (rows[i] = rows[i])) = false := by simp
          refine O_not rfl rfl rfl ?_
          refine O_end ?_
          refine W_if_false rfl (hs3) ?_
          refine W_skip ?_
          refine W_region ?_
          refine O_move rfl rfl rfl ?_
          have hcall := spoil_spec hS.own1 hG12 (by show rows[i].length ≤ _; omega)
          refine O_call rfl rfl rfl hcall (fun r w ⟨hr1, G122, hk⟩ => ?_)
          have hS := (hS.after1 hk).drop
          refine O_end ?_
          refine W_region ?_
          refine O_move rfl rfl rfl ?_
          refine O_bin rfl rfl rfl rfl (i64_succ i (by omega)) ?_
          refine O_assign rfl rfl rfl ?_
          refine O_end ?_
          exact ⟨(i + 1, v10, b10), ⟨rfl, rfl, rfl, rfl, trivial⟩, ⟨hlt, hV, _, hS⟩, by dsimp only; omega⟩
        · skip
          refine W_exit ?_
          refine W_seq ?_
          refine W_region ?_
          refine O_move rfl rfl rfl ?_
          have hi' : i = rows.length := by have := of_decide_eq_false c82; omega
          rw [hi', List.drop_length, show encRows [] = [] from rfl, List.nil_append] at hV
          have hlf := left_spec hS.own2 hV
          refine O_call rfl rfl rfl hlf (fun r w ⟨hr1, hk⟩ => ?_)
          subst hr1
          have hS := hS.after2 hk
          have hleft : (((RSt.left (some raw)).length : Int) == (raw.length : Int)) = true := by simp [RSt.left]
          refine O_move rfl rfl rfl ?_
          refine O_len rfl rfl rfl rfl ?_
          refine O_bin rfl rfl rfl rfl rfl ?_
          refine O_move rfl rfl rfl ?_
          refine O_know 101 (.bool true) rfl (congrArg Value.bool (hleft)) ?_
          refine O_move rfl rfl rfl ?_
          refine O_move rfl rfl rfl ?_
          refine O_len rfl rfl rfl rfl ?_
          have hrw := rraw_spec (n := (raw.length : Int)) hS.own2 hV (by show raw.length ≤ _; omega)
          rw [show rraw (some raw) (raw.length : Int) = (raw, some []) from by unfold rraw; dsimp only; rw [if_neg (by omega)]; simp] at hrw
          refine O_call rfl rfl rfl hrw (fun r w ⟨v11, b11, G11, hG11, hV, hk⟩ => ?_)
          have hS := hS.after2 hk
          obtain ⟨A11, c11, rfl, _⟩ := hG11.form
          refine O_move rfl rfl rfl ?_
          obtain ⟨_, _, hq, _, _, hn1, _⟩ := hG11.rd hS
          cases hq
          have hsm := same_spec (c := c11) (d := d) hn1 (hS.rd hb (Apart.of_nil _ _)) (by show raw.length ≤ _; omega)
          refine O_call rfl rfl rfl hsm (fun r w ⟨hr1, hk⟩ => ?_)
          subst hr1
          have hS := (hS.after0 hk).drop
          have hs4 : decide (raw = raw) = true := by simp
          first | refine O_pick_true rfl rfl rfl rfl ?_ | refine O_pick_false rfl rfl rfl rfl ?_
          refine O_move rfl rfl rfl ?_
          refine O_know 109 (.bool true) rfl (congrArg Value.bool (hs4)) ?_
          refine O_move rfl rfl rfl ?_
          have hwl1 := whole_spec hS.own2 hV
          refine O_call rfl rfl rfl hwl1 (fun r w ⟨hr1, hk⟩ => ?_)
          subst hr1
          have hS := hS.after2 hk
          have hwh : decide ((some [] : RSt) = some []) = true := by simp
          first | refine O_pick_true rfl rfl rfl rfl ?_ | refine O_pick_false rfl rfl rfl rfl ?_
          refine O_move rfl rfl rfl ?_
          refine O_know 113 (.bool true) rfl (congrArg Value.bool (hwh)) ?_
          have hcall := known_spec (w0 := w)
          refine O_call rfl rfl rfl hcall (fun r w ⟨hr1, hk⟩ => ?_)
          subst hr1
          have hS := hS.after0 hk
          first | refine O_pick_true rfl rfl rfl rfl ?_ | refine O_pick_false rfl rfl rfl rfl ?_
          refine O_assign rfl rfl rfl ?_
          refine O_end ?_
          refine W_ret ⟨_, rfl, ?_⟩
          exact ⟨rfl, _, hS⟩

end Go.Proofs.Ytnbkeiekoncpnaa.R
