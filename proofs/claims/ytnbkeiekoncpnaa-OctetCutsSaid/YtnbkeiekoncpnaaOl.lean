/- Rows whose bytes are cut short: the law's walk. -/
import Derived.Test.YtnbkeiekoncpnaaOk
namespace Go.Proofs.Ytnbkeiekoncpnaa.R
open Go Go.RowKit Go.Proofs
set_option linter.unusedVariables false
set_option linter.unusedSimpArgs false
set_option maxRecDepth 20000

/-- What a row needs, where less is there: the Reader errs. -/
theorem decGo_cut : ∀ (u i a n : Nat) (r : List UInt8), n < (enc u).length → decGo i a ((enc u).take n) = none := by
  intro u
  induction u using Nat.strongRecOn with
  | _ u ih =>
    intro i a n r hn
    by_cases hu : u < 128
    · rw [enc_small hu] at hn ⊢
      have : n = 0 := by simpa using hn
      subst this
      rfl
    · rw [enc_big hu] at hn ⊢
      cases n with
      | zero => rfl
      | succ n =>
        rw [List.take_succ_cons, decGo_cons]
        split
        · rfl
        · have ht : (UInt8.ofNat (u % 128 + 128)).toNat = u % 128 + 128 := by rw [UInt8.toNat_ofNat']; omega
          rw [if_neg (by omega)]
          exact ih (u / 128) (by omega) _ _ n r (by simpa using hn)
theorem rbytes_cut (x : List UInt8) (n : Nat) (h : x.length ≤ 4611686018427387904) (hn : n < (encRow x).length) : rbytes (some ((encRow x).take n)) = ([], none) := by
  unfold encRow at hn ⊢
  unfold rbytes
  by_cases h1 : n < (enc x.length).length
  · rw [List.take_append_of_le_length (by omega)]
    have hd : dec ((enc x.length).take n) = none := decGo_cut x.length 0 0 n [] h1
    rw [show rnum (some ((enc x.length).take n)) = (0, none) from rnum_none (s := some _) hd]
    rfl
  · rw [List.take_append, List.take_of_length_le (by omega), rnum_enc x.length _ h]
    unfold rraw
    dsimp only
    rw [List.length_append] at hn
    rw [if_pos]
    right
    rw [List.length_take]
    omega
theorem rbytes_none : rbytes none = ([], none) := rfl
theorem encRows_cons (x : List UInt8) (r : List (List UInt8)) : encRows (x :: r) = encRow x ++ encRows r := rfl
/-- Rows behind the j first ones, of which bytes are there: the state, and how many bytes the next row takes. -/
theorem cut_step (rows : List (List UInt8)) (j cut : Nat) (hj : j < rows.length) (hw : wt rows ≤ 1000000) (h : (encRows (rows.take j)).length ≤ cut) :
    ((encRows (rows.take (j + 1))).length ≤ cut → rbytes (some ((encRows (rows.drop j)).take (cut - (encRows (rows.take j)).length))) = (rows[j], some ((encRows (rows.drop (j + 1))).take (cut - (encRows (rows.take (j + 1))).length)))) ∧
    (¬ (encRows (rows.take (j + 1))).length ≤ cut → rbytes (some ((encRows (rows.drop j)).take (cut - (encRows (rows.take j)).length))) = ([], none)) := by
  have hlen := wt_take rows j hj
  have hs : (encRows (rows.take (j + 1))).length = (encRows (rows.take j)).length + (encRow rows[j]).length := by rw [encRows_snoc rows j hj, List.length_append]
  have hd : encRows (rows.drop j) = encRow rows[j] ++ encRows (rows.drop (j + 1)) := by rw [List.drop_eq_getElem_cons hj, encRows_cons]
  refine ⟨fun hle => ?_, fun hle => ?_⟩
  · rw [hd, List.take_append, List.take_of_length_le (by omega), encRow, List.append_assoc, rbytes_enc rows[j] _ (by omega)]
    congr 3
    rw [hs]
    unfold encRow
    omega
  · rw [hd, List.take_append_of_le_length (by omega)]
    exact rbytes_cut rows[j] _ (by omega) (by omega)
/-- What the reader holds ahead of row j. -/
def cutSt (rows : List (List UInt8)) (cut j : Nat) : RSt := if (encRows (rows.take j)).length ≤ cut then some ((encRows (rows.drop j)).take (cut - (encRows (rows.take j)).length)) else none
theorem cutSt_step (rows : List (List UInt8)) (cut j : Nat) (hj : j < rows.length) (hw : wt rows ≤ 1000000) :
    rbytes (cutSt rows cut j) = if (encRows (rows.take (j + 1))).length ≤ cut then (rows[j], cutSt rows cut (j + 1)) else ([], none) := by
  have hs : (encRows (rows.take (j + 1))).length = (encRows (rows.take j)).length + (encRow rows[j]).length := by rw [encRows_snoc rows j hj, List.length_append]
  by_cases h : (encRows (rows.take j)).length ≤ cut
  · obtain ⟨h1, h2⟩ := cut_step rows j cut hj hw h
    rw [cutSt, if_pos h]
    by_cases h3 : (encRows (rows.take (j + 1))).length ≤ cut
    · rw [if_pos h3, h1 h3, cutSt, if_pos h3]
    · rw [if_neg h3, h2 h3]
  · rw [cutSt, if_neg h, if_neg (by omega)]; rfl
theorem cutSt_none (rows : List (List UInt8)) (cut j : Nat) (h : ¬ (encRows (rows.take j)).length ≤ cut) : cutSt rows cut j = none := by rw [cutSt, if_neg h]
theorem cutSt_left (rows : List (List UInt8)) (cut j : Nat) (hw : wt rows ≤ 1000000) : (cutSt rows cut j).left.length ≤ 1000000 := by
  unfold cutSt
  split
  · have := encRows_drop_len rows j (by omega)
    simp only [RSt.left, Option.getD_some, List.length_take]
    omega
  · simp [RSt.left]

set_option maxHeartbeats 1600000 in
theorem octetCuts_spec {w0 : World} {A : Option Addr} {rows : List (List UInt8)} {at_ : Int} {c : Nat} (hr : RdB w0 A rows []) :
    Calls Try.prog 8 #[.slice A rows.length c, .int .i64 at_] w0 (Ret fun r w => r = .bool true ∧ ∃ Gs, St w0 [] Gs w) := by
  have hS : Own [] w0 := St.start w0
  refine calls_enter (l := [.slice A rows.length c, .int .i64 at_]) Try.func8 rfl Try.ntmps8 Try.results8 (Nat.le_of_ble_eq_true rfl) ?_
  refine W_seq ?_
  refine W_region ?_
  refine O_assign rfl rfl rfl ?_
  refine O_end ?_
  refine W_seq ?_
  refine W_seq ?_
  refine W_region ?_
  refine O_move rfl rfl rfl ?_
  have hcall := heavy_spec (c := c) hr
  refine O_call rfl rfl rfl hcall (fun r w ⟨hr1, hk⟩ => ?_)
  subst hr1
  have hS := hS.after0 hk
  refine O_move rfl rfl rfl ?_
  refine O_part 14 rfl (fun c14 => ?_) (fun c14 => ?_)
  · skip
    refine O_skip rfl rfl ?_
    refine O_skip rfl rfl ?_
    refine O_skip rfl rfl ?_
    first | refine O_pick_true rfl rfl rfl rfl ?_ | refine O_pick_false rfl rfl rfl rfl ?_
    refine O_end ?_
    refine W_if_true rfl (rfl) ?_
    refine W_seq ?_
    refine W_region ?_
    refine O_assign rfl rfl rfl ?_
    refine O_end ?_
    refine W_ret ⟨_, rfl, ?_⟩
    exact ⟨rfl, _, hS⟩
  · skip
    refine O_move rfl rfl rfl ?_
    refine O_len rfl rfl rfl rfl ?_
    refine O_bin rfl rfl rfl rfl rfl ?_
    first | refine O_pick_true rfl rfl rfl rfl ?_ | refine O_pick_false rfl rfl rfl rfl ?_
    refine O_end ?_
    refine W_if rfl (fun c18 => ?_) (fun c18 => ?_)
    · skip
      refine W_seq ?_
      refine W_region ?_
      refine O_assign rfl rfl rfl ?_
      refine O_end ?_
      refine W_ret ⟨_, rfl, ?_⟩
      exact ⟨rfl, _, hS⟩
    · skip
      refine W_skip ?_
      refine W_seq ?_
      refine W_region ?_
      have hw := heavy_wt c14
      have hwl := wt_length rows
      have hrows : 0 < rows.length := by
        rcases Nat.eq_zero_or_pos rows.length with h | h
        · rw [h] at c18; exact absurd c18 (by decide)
        · exact h
      refine O_assign rfl rfl rfl ?_
      refine O_end ?_
      refine W_seq ?_
      refine W_region ?_
      refine O_assign rfl rfl rfl ?_
      refine O_end ?_
      refine W_seq ?_
      refine W_seq ?_
      refine W_region ?_
      refine O_assign rfl rfl rfl ?_
      refine O_end ?_
      refine W_block ?_
      refine W_loop (ι := Nat × Value × List Chunk × Value × List Chunk) (fun i => [(0, .slice A rows.length c), (1, .int .i64 at_), (5, i.2.1), (6, i.2.2.2.1), (7, .int .i64 (i.1 : Nat))])
          (fun i w => i.1 ≤ rows.length ∧ BRow i.2.1 (encRows (rows.take i.1)) i.2.2.1 ∧ Row 3 1 i.2.2.2.1 i.1 ((List.range i.1).map fun k => iv ((encRows (rows.take (k + 1))).length : Nat)) i.2.2.2.2 ∧ St w0 [] [i.2.2.1, i.2.2.2.2] w) (fun i => rows.length - i.1)
          (0, .slice none 0 0, [], .slice none 0 0, []) ⟨rfl, rfl, rfl, rfl, rfl, trivial⟩ ⟨Nat.zero_le _, Row.nil _ _, Row.nil _ _, hS.empty.empty⟩ ?_
      rintro ⟨i, v5, R5, v6, R6⟩ w ⟨hi, hR5, hR6, hS⟩
      dsimp only at hi hR5 hR6 hS ⊢
      refine W_seq ?_
      refine W_seq ?_
      refine W_region ?_
      refine O_move rfl rfl rfl ?_
      refine O_move rfl rfl rfl ?_
      refine O_len rfl rfl rfl rfl ?_
      refine O_bin rfl rfl rfl rfl rfl ?_
      refine O_end ?_
      refine W_if rfl (fun c22 => ?_) (fun c22 => ?_)
      · skip
        refine W_skip ?_
        refine W_seq ?_
        refine W_block ?_
        refine W_seq ?_
        refine W_region ?_
        refine O_move rfl rfl rfl ?_
        refine O_move rfl rfl rfl ?_
        refine O_move rfl rfl rfl ?_
        have hlt : i < rows.length := by have := of_decide_eq_true c22; omega
        obtain ⟨vs, Ai, ci, hv1, hv2, hv3, hv4, hv5⟩ := hr.at i hlt
        have hw1 := wt_take rows i hlt
        refine O_indexRd rfl rfl rfl rfl (hS.rd hv1 hv2) (by simpa using hv3) hlt (fun ad hA hc => ?_)
        refine O_load rfl rfl rfl rfl hc ?_
        have hcall := refBytes_spec (c := ci) (hS.rd hv4 hv5) (by omega)
        refine O_call rfl rfl rfl hcall (fun r w ⟨G30, hG30, hk⟩ => ?_)
        have hS := hS.after0 hk
        obtain ⟨A30, c30, rfl, _⟩ := hG30.form
        obtain ⟨_, _, hq, _, _, hn5, _⟩ := hG30.rd hS
        cases hq
        have hS := hS.f1
        have hel := encRow_len rows[i] (by omega)
        have hetl := encRows_take_le rows i (by omega)
        refine O_append hS hR5 rfl rfl (by decide) rfl rfl rfl (news := bvs (encRow rows[i])) (by simp) hn5 (bvs_one _) (by omega) (by unfold maxLen; omega) (fun v5 R5 w hR5 hS => ?_)
        have hR5 := brow_append hR5 rfl
        rw [← encRows_snoc rows i hlt] at hR5
        obtain ⟨A5, c5, rfl, _⟩ := hR5.form
        have hS := hS.f1.drop
        refine O_assign rfl rfl rfl ?_
        refine O_end ?_
        refine W_region ?_
        refine O_move rfl rfl rfl ?_
        refine O_move rfl rfl rfl ?_
        refine O_len rfl rfl rfl rfl ?_
        refine O_lit hS rfl rfl rfl rfl rfl rfl (Nat.le_of_ble_eq_true rfl) (fun b35 w hS => ?_)
        have hn1 := hS.rdAll
        have hS := hS.f2
        refine O_append hS hR6 rfl rfl (by decide) rfl rfl rfl (m := 1) (news := [iv ((encRows (rows.take (i + 1))).length : Nat)]) rfl hn1 (by simp [iv, Value.oneCell']) (by omega) (by unfold maxLen; omega) (fun v6 R6 w hR6 hS => ?_)
        have hS := hS.f1.drop.f1
        refine O_assign rfl rfl rfl ?_
        refine O_end ?_
        refine W_region ?_
        refine O_move rfl rfl rfl ?_
        refine O_bin rfl rfl rfl rfl (i64_succ i (by omega)) ?_
        refine O_assign rfl rfl rfl ?_
        refine O_end ?_
        refine ⟨(i + 1, _, R5, v6, R6), ⟨rfl, rfl, rfl, rfl, rfl, trivial⟩, ⟨hlt, hR5, ?_, hS⟩, by dsimp only; omega⟩
        dsimp only
        rw [List.range_succ, List.map_append]
        exact hR6
      · skip
        refine W_exit ?_
        refine W_seq ?_
        refine W_region ?_
        have hi' : i = rows.length := by have := of_decide_eq_false c22; omega
        subst hi'
        rw [List.take_length] at hR5
        obtain ⟨A5, c5, rfl, hc5, _⟩ := hR5.form
        obtain ⟨A6, c6, rfl, hc6, _⟩ := hR6.form
        refine O_move rfl rfl rfl ?_
        obtain ⟨m, hm1, hm2⟩ := and_mask at_
        refine O_bin rfl rfl rfl rfl hm2 ?_
        refine O_move rfl rfl rfl ?_
        refine O_len rfl rfl rfl rfl ?_
        have hpos : 0 < (encRows rows).length := by
          cases rows with
          | nil => simp at hrows
          | cons x r => rw [encRows_cons, List.length_append]; have := enc_pos x.length; simp only [encRow, List.length_append]; omega
        refine O_rem rfl rfl rfl rfl hpos ?_
        obtain ⟨cut, hcut⟩ : ∃ cut, cut = m % (encRows rows).length := ⟨_, rfl⟩
        have hk0 : cut < (encRows rows).length := by rw [hcut]; exact Nat.mod_lt m hpos
        refine O_know 41 (.int .i64 (cut : Int)) rfl (by rw [hcut]) ?_
        refine O_assign rfl rfl rfl ?_
        refine O_end ?_
        refine W_seq ?_
        refine W_region ?_
        refine O_move rfl rfl rfl ?_
        refine O_move rfl rfl rfl ?_
        refine O_slice_to rfl rfl rfl rfl (by omega) ?_
        obtain ⟨_, _, hq, _, _, hn5, _⟩ := hR5.rd hS
        cases hq
        have hn6 : Rd w A5 (bvs ((encRows rows).take cut)) := by rw [bvs_take]; exact hn5.take _
        have hlt5 : ((encRows rows).take cut).length = cut := by rw [List.length_take]; omega
        have hel := encRows_len rows (by omega)
        have hnr := newReader_spec (c := c5) hn6 (by omega)
        rw [hlt5] at hnr
        refine O_call rfl rfl rfl hnr (fun r w ⟨r1, v9, G9, hx, hV, hk⟩ => ?_)
        subst hx
        have hS := hS.after0 hk
        have hV0 : RView v9 false (cutSt rows cut 0) G9 := by
          have : cutSt rows cut 0 = some ((encRows rows).take cut) := by rw [cutSt, if_pos (by simp [encRows])]; simp [encRows]
          rw [this]; exact hV
        refine O_assign rfl rfl rfl ?_
        refine O_end ?_
        refine W_seq ?_
        refine W_seq ?_
        refine W_region ?_
        refine O_move rfl rfl rfl ?_
        refine O_eql_ptr rfl rfl rfl ?_
        refine O_end ?_
        refine W_if_false rfl (rfl) ?_
        refine W_skip ?_
        refine W_seq ?_
        refine W_seq ?_
        refine W_region ?_
        refine O_assign rfl rfl rfl ?_
        refine O_end ?_
        refine W_block ?_
        refine W_loop (ι := Nat × Value × Bool) (fun i => [(0, .slice A rows.length c), (6, .slice A6 rows.length c6), (8, .int .i64 (cut : Int)), (9, .pointer (some ⟨r1, 0, none⟩)), (10, .int .i64 (i.1 : Nat))])
            (fun i w => i.1 ≤ rows.length ∧ RView i.2.1 i.2.2 (cutSt rows cut i.1) G9 ∧ ∃ Gs, St w0 [] ([rcell r1 i.2.1 i.2.2, G9, R6] ++ Gs) w) (fun i => rows.length - i.1) (0, v9, false) ⟨rfl, rfl, rfl, rfl, rfl, trivial⟩ ⟨Nat.zero_le _, hV0, _, hS.f3.f2.f2⟩ ?_
        rintro ⟨i, v9, b9⟩ w ⟨hi, hV, Gs, hS⟩
        dsimp only at hi hV hS ⊢
        refine W_seq ?_
        refine W_seq ?_
        refine W_region ?_
        refine O_move rfl rfl rfl ?_
        refine O_move rfl rfl rfl ?_
        refine O_len rfl rfl rfl rfl ?_
        refine O_bin rfl rfl rfl rfl rfl ?_
        refine O_end ?_
        refine W_if rfl (fun c51 => ?_) (fun c51 => ?_)
        · skip
          refine W_skip ?_
          refine W_seq ?_
          refine W_block ?_
          refine W_seq ?_
          refine W_region ?_
          refine O_move rfl rfl rfl ?_
          have hlt : i < rows.length := by have := of_decide_eq_true c51; omega
          obtain ⟨vs, Ai, ci, hv1, hv2, hv3, hv4, hv5⟩ := hr.at i hlt
          have hcl := cutSt_left rows cut i (by omega)
          have hstep := cutSt_step rows cut i hlt (by omega)
          have hrb := rbytes_spec hS.own2 hV (by omega)
          refine O_call rfl rfl rfl hrb (fun r w ⟨v9, b9, G11, hG11, hV, hk⟩ => ?_)
          have hS := hS.after2 hk
          obtain ⟨A11, c11, rfl, _⟩ := hG11.form
          refine O_assign rfl rfl rfl ?_
          refine O_end ?_
          refine W_seq ?_
          refine W_region ?_
          refine O_move rfl rfl rfl ?_
          refine O_move rfl rfl rfl ?_
          obtain ⟨_, _, hq, _, _, hn6, _⟩ := hR6.rd hS.f3
          cases hq
          refine O_indexRd (j := i) rfl rfl rfl rfl hn6 (v := iv ((encRows (rows.take (i + 1))).length : Nat)) (by simp [hlt]) (by omega) (fun ad hA hc => ?_)
          refine O_load rfl rfl rfl rfl hc ?_
          refine O_move rfl rfl rfl ?_
          refine O_bin rfl rfl rfl rfl rfl ?_
          skip
          refine O_end ?_
          refine W_if rfl (fun c61 => ?_) (fun c61 => ?_)
          · skip
            refine W_seq ?_
            refine W_region ?_
            have hle : (encRows (rows.take (i + 1))).length ≤ cut := by have := of_decide_eq_true c61; omega
            rw [if_pos hle] at hstep
            refine O_move rfl rfl rfl ?_
            refine O_move rfl rfl rfl ?_
            refine O_move rfl rfl rfl ?_
            refine O_indexRd rfl rfl rfl rfl (hS.rd hv1 hv2) (by simpa using hv3) hlt (fun ad hA hc => ?_)
            refine O_load rfl rfl rfl rfl hc ?_
            obtain ⟨_, _, hq, _, _, hn1, _⟩ := hG11.rd hS
            cases hq
            have hsm := same_spec (c := c11) (d := ci) hn1 (hS.rd hv4 hv5) (by rw [hstep]; have := wt_take rows i hlt; show rows[i].length ≤ _; omega)
            refine O_call rfl rfl rfl hsm (fun r w ⟨hr1, hk⟩ => ?_)
            subst hr1
            have hS := hS.after0 hk
            have hs1 : (!decide ((rbytes (cutSt rows cut i)).1 = rows[i])) = false := by rw [hstep]; simp
            have hS := hS.f1.f2.f1
            refine O_not rfl rfl rfl ?_
            refine O_move rfl rfl rfl ?_
            refine O_know 69 (.bool false) rfl (congrArg Value.bool (hs1)) ?_
            refine O_move rfl rfl rfl ?_
            have hcall := good_spec hS.own2
            refine O_call rfl rfl rfl hcall (fun r w ⟨hr1, hk⟩ => ?_)
            subst hr1
            have hS := hS.after2 hk
            have hgood : (!(!b9)) = false := by rw [hV.1, hstep]; dsimp only; rw [cutSt, if_pos hle]; rfl
            have hS := hS.f2
            refine O_not rfl rfl rfl ?_
            first | refine O_pick_true rfl rfl rfl rfl ?_ | refine O_pick_false rfl rfl rfl rfl ?_
            refine O_end ?_
            refine W_if_false rfl (hgood) ?_
            refine W_skip ?_
            refine W_region ?_
            refine O_move rfl rfl rfl ?_
            refine O_bin rfl rfl rfl rfl (i64_succ i (by omega)) ?_
            refine O_assign rfl rfl rfl ?_
            refine O_end ?_
            refine ⟨(i + 1, v9, b9), ⟨rfl, rfl, rfl, rfl, rfl, trivial⟩, ⟨hlt, ?_, _, hS.drop⟩, by dsimp only; omega⟩
            dsimp only
            rw [hstep] at hV
            exact hV
          · skip
            refine W_seq ?_
            refine W_region ?_
            have hle : ¬ (encRows (rows.take (i + 1))).length ≤ cut := by have := of_decide_eq_false c61; omega
            rw [if_neg hle] at hstep
            have hlen0 : (((rbytes (cutSt rows cut i)).1.length : Int) != 0) = false := by rw [hstep]; rfl
            refine O_move rfl rfl rfl ?_
            refine O_len rfl rfl rfl rfl ?_
            skip
            refine O_bin rfl rfl rfl rfl rfl ?_
            refine O_move rfl rfl rfl ?_
            refine O_know 77 (.bool false) rfl (congrArg Value.bool (hlen0)) ?_
            refine O_move rfl rfl rfl ?_
            have hS := hS.f1.f2.f1
            have hcall := good_spec hS.own2
            refine O_call rfl rfl rfl hcall (fun r w ⟨hr1, hk⟩ => ?_)
            subst hr1
            have hS := hS.after2 hk
            have hgood2 : (!b9) = false := by rw [hV.1, hstep]; rfl
            first | refine O_pick_true rfl rfl rfl rfl ?_ | refine O_pick_false rfl rfl rfl rfl ?_
            refine O_move rfl rfl rfl ?_
            refine O_know 81 (.bool false) rfl (congrArg Value.bool (hgood2)) ?_
            refine O_move rfl rfl rfl ?_
            have hcall := left_spec hS.own2 hV
            refine O_call rfl rfl rfl hcall (fun r w ⟨hr1, hk⟩ => ?_)
            subst hr1
            have hS := (hS.after2 hk).f2
            have hleft : (((rbytes (cutSt rows cut i)).2.left.length : Int) != 0) = false := by rw [hstep]; rfl
            refine O_bin rfl rfl rfl rfl rfl ?_
            first | refine O_pick_true rfl rfl rfl rfl ?_ | refine O_pick_false rfl rfl rfl rfl ?_
            refine O_end ?_
            refine W_if_false rfl (hleft) ?_
            refine W_skip ?_
            refine W_region ?_
            refine O_move rfl rfl rfl ?_
            refine O_bin rfl rfl rfl rfl (i64_succ i (by omega)) ?_
            refine O_assign rfl rfl rfl ?_
            refine O_end ?_
            refine ⟨(i + 1, v9, b9), ⟨rfl, rfl, rfl, rfl, rfl, trivial⟩, ⟨hlt, ?_, _, hS.drop⟩, by dsimp only; omega⟩
            dsimp only
            rw [hstep] at hV
            rw [cutSt_none rows cut (i + 1) hle]; exact hV
        · skip
          refine W_exit ?_
          refine W_seq ?_
          refine W_region ?_
          refine O_move rfl rfl rfl ?_
          have hi' : i = rows.length := by have := of_decide_eq_false c51; omega
          have hend : cutSt rows cut i = none := cutSt_none rows cut i (by rw [hi', List.take_length]; omega)
          rw [hend] at hV
          have hwl1 := whole_spec hS.own2 hV
          refine O_call rfl rfl rfl hwl1 (fun r w ⟨hr1, hk⟩ => ?_)
          subst hr1
          have hS := hS.after2 hk
          have hwh : (!decide ((none : RSt) = some [])) = true := by simp
          refine O_not rfl rfl rfl ?_
          refine O_move rfl rfl rfl ?_
          refine O_know 89 (.bool true) rfl (congrArg Value.bool (hwh)) ?_
          refine O_move rfl rfl rfl ?_
          have hrn := rnum_spec hS.own2 hV (by simp [RSt.left])
          refine O_call rfl rfl rfl hrn (fun r w ⟨hr1, v9, b9, hV, hk⟩ => ?_)
          subst hr1
          have hS := hS.after2 hk
          have hnum0 : ((((rnum none).1 : Nat) : Int) == 0) = true := by rfl
          refine O_bin rfl rfl rfl rfl rfl ?_
          first | refine O_pick_true rfl rfl rfl rfl ?_ | refine O_pick_false rfl rfl rfl rfl ?_
          refine O_move rfl rfl rfl ?_
          refine O_know 94 (.bool true) rfl (congrArg Value.bool (hnum0)) ?_
          have hcall := known_spec (w0 := w)
          refine O_call rfl rfl rfl hcall (fun r w ⟨hr1, hk⟩ => ?_)
          subst hr1
          have hS := hS.after0 hk
          first | refine O_pick_true rfl rfl rfl rfl ?_ | refine O_pick_false rfl rfl rfl rfl ?_
          refine O_assign rfl rfl rfl ?_
          refine O_end ?_
          refine W_ret ⟨_, rfl, ?_⟩
          exact ⟨rfl, _, hS⟩

end Go.Proofs.Ytnbkeiekoncpnaa.R
