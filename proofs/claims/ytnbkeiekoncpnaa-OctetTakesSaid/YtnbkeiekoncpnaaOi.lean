/- Rows joined, and their sums: the walks. -/
import Derived.Test.YtnbkeiekoncpnaaOh
namespace Go.Proofs.Ytnbkeiekoncpnaa.R
open Go Go.RowKit Go.Proofs
set_option linter.unusedVariables false
set_option linter.unusedSimpArgs false
set_option maxRecDepth 20000

theorem join_spec {w0 : World} {A : Option Addr} {rows : List (List UInt8)} {c : Nat} (hr : RdB w0 A rows []) (hc : rows.length ≤ c) (hw : wt rows ≤ 1000000) :
    Calls Try.prog 42 #[.slice A rows.length c, .slice none 0 0] w0 (Ret fun r w => ∃ G, BRow r rows.flatten G ∧ St w0 [] [G] w) := by
  have hS : Own [] w0 := St.start w0
  have hfl := flatten_len rows
  refine calls_enter (l := [.slice A rows.length c, .slice none 0 0]) Try.func42 rfl Try.ntmps42 Try.results42 (Nat.le_of_ble_eq_true rfl) ?_
  refine W_seq ?_
  refine W_region ?_
  refine O_assign rfl rfl rfl ?_
  refine O_end ?_
  refine W_seq ?_
  refine W_seq ?_
  refine W_region ?_
  refine O_move rfl rfl rfl ?_
  refine O_len rfl rfl rfl rfl ?_
  refine O_bin rfl rfl rfl rfl rfl ?_
  refine O_end ?_
  refine W_if rfl (fun c14 => ?_) (fun c14 => ?_)
  · skip
    refine W_seq ?_
    refine W_region ?_
    refine O_lit hS rfl rfl rfl rfl rfl rfl (Nat.le_of_ble_eq_true rfl) (fun b15 w hS => ?_)
    refine O_assign rfl rfl rfl ?_
    refine O_end ?_
    refine W_ret ⟨_, rfl, ?_⟩
    have h0 : rows = [] := List.eq_nil_of_length_eq_zero (by have := beq_iff_eq.1 c14; omega)
    subst h0
    exact ⟨_, Row.full (n := 0) (cur := #[]) (Nat.zero_le _) rfl, hS⟩
  · skip
    refine W_skip ?_
    refine W_seq ?_
    refine W_seq ?_
    refine W_region ?_
    refine O_move rfl rfl rfl ?_
    refine O_len rfl rfl rfl rfl ?_
    refine O_bin rfl rfl rfl rfl rfl ?_
    refine O_end ?_
    refine W_if rfl (fun c18 => ?_) (fun c18 => ?_)
    · skip
      refine W_seq ?_
      refine W_region ?_
      refine O_move rfl rfl rfl ?_
      have h1 : rows.length = 1 := by have := beq_iff_eq.1 c18; omega
      obtain ⟨vs, Ai, ci, hv1, hv2, hv3, hv4, hv5⟩ := hr.at 0 (by omega)
      refine O_indexRd (j := 0) rfl rfl rfl rfl hv1 (by simpa using hv3) (by omega) (fun ad hA hc => ?_)
      refine O_load rfl rfl rfl rfl hc ?_
      have hf1 := flatten_get_le rows 0 (by omega)
      refine O_append hS.empty (Row.nil 5 1) rfl rfl (by decide) rfl rfl rfl (news := bvs (rows[0]'(by omega))) (by simp) hv4 (bvs_one _) (by omega) (by unfold maxLen; omega) (fun v R w hR hS => ?_)
      refine O_assign rfl rfl rfl ?_
      refine O_end ?_
      refine W_ret ⟨_, rfl, ?_⟩
      refine ⟨R, ?_, hS⟩
      have he : rows.flatten = rows[0]'(by omega) := by
        match rows, h1 with
        | [x], _ => simp
      rw [he]
      simpa [BRow] using hR
    · skip
      refine W_skip ?_
      refine W_seq ?_
      refine W_region ?_
      have h2 : 2 ≤ rows.length := by
        have h3 : ¬ rows.length = 0 := fun h => by rw [h] at c14; exact absurd c14 (by decide)
        have h4 : ¬ rows.length = 1 := fun h => by rw [h] at c18; exact absurd c18 (by decide)
        omega
      refine O_assign rfl rfl rfl ?_
      refine O_end ?_
      refine W_seq ?_
      refine W_seq ?_
      refine W_region ?_
      refine O_move rfl rfl rfl ?_
      refine O_len rfl rfl rfl rfl ?_
      refine O_bin rfl rfl rfl rfl rfl ?_
      refine O_end ?_
      refine W_if_false rfl (rfl) ?_
      refine W_skip ?_
      refine W_seq ?_
      refine W_seq ?_
      refine W_region ?_
      refine O_move rfl rfl rfl ?_
      refine O_len rfl rfl rfl rfl ?_
      refine O_move rfl rfl rfl ?_
      refine O_end ?_
      refine W_block ?_
      refine W_loop (ι := Nat) (fun i => [(0, .slice A rows.length c), (1, .slice none 0 0), (42, .slice A rows.length c), (43, .int .i64 (rows.length : Nat)), (44, .int .i64 (i : Nat)), (5, .int .i64 ((rows.take i).flatten.length : Nat))]) (fun i w => i ≤ rows.length ∧ St w0 [] [] w) (fun i => rows.length - i) 0 ⟨rfl, rfl, rfl, rfl, rfl, rfl, trivial⟩ ⟨Nat.zero_le _, hS⟩ ?_
      rintro i w ⟨hi, hS⟩
      have hf0 := flatten_take_le rows i
      have hwl := wt_length rows
      refine W_seq ?_
      refine W_region ?_
      refine O_bin rfl rfl rfl rfl rfl ?_
      refine O_end ?_
      refine W_seq ?_
      refine W_if rfl (fun c45 => ?_) (fun c45 => ?_)
      · skip
        refine W_skip ?_
        refine W_seq ?_
        refine W_block ?_
        refine W_seq ?_
        refine W_region ?_
        have hlt : i < rows.length := by have := of_decide_eq_true c45; omega
        obtain ⟨vs, Ai, ci, hv1, hv2, hv3, hv4, hv5⟩ := hr.at i hlt
        have hf1 := flatten_get_le rows i hlt
        refine O_indexRd rfl rfl rfl rfl (hS.rd hv1 hv2) (by simpa using hv3) hlt (fun ad hA hc => ?_)
        refine O_load rfl rfl rfl rfl hc ?_
        refine O_assign rfl rfl rfl ?_
        refine O_end ?_
        refine W_seq ?_
        refine W_seq ?_
        refine W_region ?_
        refine O_move rfl rfl rfl ?_
        refine O_len rfl rfl rfl rfl ?_
        refine O_move rfl rfl rfl ?_
        refine O_bin rfl rfl rfl rfl (sub_max _ (by omega)) ?_
        have hnot : decide ((rows[i].length : Int) > 9223372036854775807 - ((rows.take i).flatten.length : Int)) = false := decide_eq_false (by omega)
        refine O_bin rfl rfl rfl rfl rfl ?_
        refine O_end ?_
        refine W_if_false rfl (hnot) ?_
        refine W_skip ?_
        refine W_region ?_
        refine O_move rfl rfl rfl ?_
        refine O_move rfl rfl rfl ?_
        refine O_len rfl rfl rfl rfl ?_
        refine O_bin rfl rfl rfl rfl (add_i64 _ _ (by omega)) ?_
        refine O_assign rfl rfl rfl ?_
        refine O_end ?_
        refine W_region ?_
        refine O_bin rfl rfl rfl rfl (i64_succ i (by omega)) ?_
        refine O_move rfl rfl rfl ?_
        refine O_end ?_
        refine ⟨i + 1, ⟨rfl, rfl, rfl, rfl, rfl, ?_, trivial⟩, ⟨hlt, hS⟩, by omega⟩
        rw [flatten_snoc rows i hlt, List.length_append]
        rfl
      · skip
        refine W_exit ?_
        refine W_seq ?_
        refine W_region ?_
        have hi' : i = rows.length := by have := of_decide_eq_false c45; omega
        subst hi'
        rw [List.take_length]
        refine O_move rfl rfl rfl ?_
        refine O_makeNoZero hS rfl rfl rfl (by unfold maxLen; omega) (by omega) (fun b cs w hcs1 hcs2 hS => ?_)
        refine O_move rfl rfl rfl ?_
        refine O_move rfl rfl rfl ?_
        refine O_slice_to3 rfl rfl rfl rfl rfl hcs1 ?_
        refine O_assign rfl rfl rfl ?_
        refine O_end ?_
        refine W_seq ?_
        refine W_region ?_
        refine O_move rfl rfl rfl ?_
        refine O_move rfl rfl rfl ?_
        obtain ⟨vs, Ai, ci, hv1, hv2, hv3, hv4, hv5⟩ := hr.at 0 (by omega)
        refine O_indexRd (j := 0) rfl rfl rfl rfl (hS.rd hv1 hv2) (by simpa using hv3) (by omega) (fun ad hA hc => ?_)
        refine O_load rfl rfl rfl rfl hc ?_
        have hf1 := flatten_get_le rows 0 (by omega)
        have hm0 := laid_more (cu := cs) (off := 0) (done := []) (news := bvs (rows[0]'(by omega))) (by simp) rfl (by simp; omega)
        refine O_copy (off := 0) (news := bvs (rows[0]'(by omega))) hS rfl rfl rfl rfl (by rw [bvs_length]; exact (Nat.min_eq_left (by omega)).symm) (.inr rfl) (hS.rd hv4 hv5) (bvs_one _) (by rw [bvs_length]; omega) (fun w hS => ?_)
        rw [bvs_length] at hS hm0 ⊢
        rw [Nat.zero_add] at hS hm0
        refine O_assign rfl rfl rfl ?_
        refine O_end ?_
        refine W_seq ?_
        refine W_seq ?_
        refine W_region ?_
        refine O_move rfl rfl rfl ?_
        refine O_slice_from (i := 1) rfl rfl rfl rfl (by omega) ?_
        rw [if_neg (by omega), Nat.one_mul]
        refine O_len rfl rfl rfl rfl ?_
        refine O_move rfl rfl rfl ?_
        refine O_end ?_
        refine W_block ?_
        have hone : (rows.take 1).flatten = rows[0]'(by omega) := by rw [List.take_one, List.head?_eq_getElem?, List.getElem?_eq_getElem (by omega)]; simp
        refine W_loop (ι := Nat × Array Value) (fun i => [(1, .slice none 0 0), (70, .slice (A.map (·.add 1)) (rows.length - 1) (c - 1)), (71, .int .i64 ((rows.length - 1 : Nat) : Int)), (72, .int .i64 (i.1 : Nat)), (8, .slice (some ⟨b, 0, none⟩) rows.flatten.length rows.flatten.length), (9, .int .i64 ((rows.take (i.1 + 1)).flatten.length : Nat))])
            (fun i w => i.1 + 1 ≤ rows.length ∧ i.2.size = cs.size ∧ i.2.toList.take (rows.take (i.1 + 1)).flatten.length = bvs (rows.take (i.1 + 1)).flatten ∧ St w0 [] [[(b, .cells i.2 5 (0, 0))]] w) (fun i => rows.length - i.1)
            (0, _) ⟨rfl, rfl, rfl, rfl, rfl, ?_, trivial⟩ ⟨by dsimp only; omega, hm0.2, ?_, hS⟩ ?_
        · dsimp only
          rw [Nat.zero_add, hone]; rfl
        · dsimp only
          rw [Nat.zero_add, hone]; exact hm0.1
        rintro ⟨j, cu⟩ w ⟨hj, hcu1, hcu2, hS⟩
        dsimp only at hj hcu1 hcu2 hS ⊢
        have hf0 := flatten_take_le rows (j + 1)
        refine W_seq ?_
        refine W_region ?_
        refine O_bin rfl rfl rfl rfl rfl ?_
        refine O_end ?_
        refine W_seq ?_
        refine W_if rfl (fun c73 => ?_) (fun c73 => ?_)
        · skip
          refine W_skip ?_
          refine W_seq ?_
          refine W_block ?_
          refine W_seq ?_
          refine W_region ?_
          have hlt : j + 1 < rows.length := by have := of_decide_eq_true c73; omega
          obtain ⟨vs, Ai, ci, hv1, hv2, hv3, hv4, hv5⟩ := hr.at (j + 1) hlt
          have hf1 := flatten_get_le rows (j + 1) hlt
          refine O_indexRd rfl rfl rfl rfl ((hS.rd hv1 hv2).drop 1) (v := .slice Ai rows[j + 1].length ci) (by simpa [Nat.add_comm 1 j] using hv3) (by omega) (fun ad hA hc => ?_)
          refine O_load rfl rfl rfl rfl hc ?_
          refine O_assign rfl rfl rfl ?_
          refine O_end ?_
          refine W_seq ?_
          refine W_region ?_
          refine O_move rfl rfl rfl ?_
          refine O_move rfl rfl rfl ?_
          refine O_move rfl rfl rfl ?_
          refine O_slice_from rfl rfl rfl rfl (by omega) ?_
          refine O_move rfl rfl rfl ?_
          refine O_copy (off := 0) (news := []) hS rfl rfl rfl rfl (by simp) (.inl rfl) (Rd.nil _ _) (by simp) (by simp) (fun w hS => ?_)
          rw [show (cu.toList.take 0 ++ ([] : List Value) ++ cu.toList.drop (0 + ([] : List Value).length)).toArray = cu from by simp] at hS
          refine O_bin rfl rfl rfl rfl (v := .int .i64 ((rows.take (j + 1)).flatten.length : Nat)) (add_i64 _ 0 (by omega)) ?_
          refine O_assign rfl rfl rfl ?_
          refine O_end ?_
          refine W_region ?_
          refine O_move rfl rfl rfl ?_
          refine O_move rfl rfl rfl ?_
          refine O_move rfl rfl rfl ?_
          refine O_slice_from rfl rfl rfl rfl (by omega) ?_
          refine O_move rfl rfl rfl ?_
          have hm1 := laid_more (cu := cu) (off := (rows.take (j + 1)).flatten.length) (done := bvs (rows.take (j + 1)).flatten) (news := bvs rows[j + 1]) hcu2 (by simp) (by rw [bvs_length]; omega)
          refine O_copy (off := (rows.take (j + 1)).flatten.length) (news := bvs rows[j + 1]) hS rfl rfl rfl rfl (by rw [bvs_length]; exact (Nat.min_eq_left (by omega)).symm) (by
              by_cases hq : rows.flatten.length = (rows.take (j + 1)).flatten.length
              · left
                have : rows[j + 1] = [] := List.eq_nil_of_length_eq_zero (by omega)
                rw [this]; rfl
              · right
                rw [if_neg hq]
                simp [add_lit]) (hS.rd hv4 hv5) (bvs_one _) (by rw [bvs_length]; omega) (fun w hS => ?_)
          refine O_bin rfl rfl rfl rfl (by rw [bvs_length]; exact add_i64 _ _ (by omega)) ?_
          refine O_assign rfl rfl rfl ?_
          refine O_end ?_
          refine W_region ?_
          refine O_bin rfl rfl rfl rfl (i64_succ j (by omega)) ?_
          refine O_move rfl rfl rfl ?_
          refine O_end ?_
          rw [bvs_length] at hm1 hS
          refine ⟨(j + 1, _), ⟨rfl, rfl, rfl, rfl, rfl, ?_, trivial⟩, ⟨by dsimp only; omega, ?_, ?_, hS⟩, by dsimp only; omega⟩
          · rw [flatten_snoc rows (j + 1) hlt, List.length_append]
            rfl
          · dsimp only
            rw [hm1.2]; exact hcu1
          · dsimp only
            rw [flatten_snoc rows (j + 1) hlt, List.length_append, hm1.1, bvs_append]
        · skip
          refine W_exit ?_
          refine W_seq ?_
          refine W_region ?_
          refine O_move rfl rfl rfl ?_
          refine O_assign rfl rfl rfl ?_
          refine O_end ?_
          refine W_ret ⟨_, rfl, ?_⟩
          have hj' : j + 1 = rows.length := by have := of_decide_eq_false c73; omega
          rw [hj', List.take_length] at hcu2
          exact ⟨_, ⟨by simp, .inr ⟨b, _, cu, rfl, rfl, Nat.le_refl _, by unfold maxLen; omega, by omega, by rw [Nat.mul_one]; exact hcu2⟩⟩, hS⟩

theorem Join_spec {w0 : World} {A : Option Addr} {rows : List (List UInt8)} {c : Nat} (hr : RdB w0 A rows []) (hc : rows.length ≤ c) (hw : wt rows ≤ 1000000) :
    Calls Try.prog 22 #[.slice A rows.length c] w0 (Ret fun r w => ∃ G, BRow r rows.flatten G ∧ St w0 [] [G] w) := by
  have hS : Own [] w0 := St.start w0
  refine calls_enter (l := [.slice A rows.length c]) Try.func22 rfl Try.ntmps22 Try.results22 (Nat.le_of_ble_eq_true rfl) ?_
  refine W_seq ?_
  refine W_region ?_
  refine O_assign rfl rfl rfl ?_
  refine O_end ?_
  refine W_seq ?_
  refine W_region ?_
  refine O_move rfl rfl rfl ?_
  refine O_call rfl rfl rfl (join_spec hr hc hw) (fun r w ⟨G, hG, hk⟩ => ?_)
  have hS := hS.after0 hk
  refine O_assign rfl rfl rfl ?_
  refine O_end ?_
  refine W_ret ⟨_, rfl, ?_⟩
  exact ⟨G, hG, hS⟩

theorem octetSums_spec {w0 : World} {A : Option Addr} {rows : List (List UInt8)} {at_ z : Int} {c : Nat} (hr : RdB w0 A rows []) (hc : rows.length ≤ c) (hz : ∃ y : UInt8, z = (y.toNat : Int)) :
    Calls Try.prog 5 #[.slice A rows.length c, .int .i64 at_, .int .u8 z] w0 (Ret fun r w => r = .bool true ∧ ∃ Gs, St w0 [] Gs w) := by
  have hS : Own [] w0 := St.start w0
  obtain ⟨y, rfl⟩ := hz
  refine calls_enter (l := [.slice A rows.length c, .int .i64 at_, .int .u8 (y.toNat : Int)]) Try.func5 rfl Try.ntmps5 Try.results5 (Nat.le_of_ble_eq_true rfl) ?_
  refine W_seq ?_
  refine W_region ?_
  refine O_assign rfl rfl rfl ?_
  refine O_end ?_
  refine W_seq ?_
  refine W_seq ?_
  refine W_region ?_
  refine O_move rfl rfl rfl ?_
  refine O_call rfl rfl rfl (heavy_spec hr) (fun r w ⟨hr1, hk⟩ => ?_)
  subst hr1
  have hS := hS.after0 hk
  refine O_end ?_
  refine W_if rfl (fun c12 => ?_) (fun c12 => ?_)
  · skip
    refine W_seq ?_
    refine W_region ?_
    refine O_assign rfl rfl rfl ?_
    refine O_end ?_
    refine W_ret ⟨_, rfl, ?_⟩
    exact ⟨rfl, _, hS⟩
  · skip
    refine W_skip ?_
    refine W_seq ?_
    refine W_region ?_
    refine O_move rfl rfl rfl ?_
    have hw := heavy_wt c12
    have hfl := flatten_len rows
    refine O_call rfl rfl rfl (Join_spec (hr.st hS) hc (by omega)) (fun r w ⟨G1, hG1, hk⟩ => ?_)
    have hS := hS.after0 hk
    obtain ⟨A1, c1, rfl, _⟩ := hG1.form
    refine O_assign rfl rfl rfl ?_
    refine O_end ?_
    refine W_seq ?_
    refine W_region ?_
    refine O_assign rfl rfl rfl ?_
    refine O_end ?_
    refine W_seq ?_
    refine W_seq ?_
    refine W_region ?_
    refine O_assign rfl rfl rfl ?_
    refine O_end ?_
    refine W_block ?_
    refine W_loop (ι := Nat × Value × List Chunk) (fun i => [(0, .slice A rows.length c), (1, .int .i64 at_), (2, .int .u8 (y.toNat : Int)), (7, .slice A1 rows.flatten.length c1), (8, i.2.1), (9, .int .i64 (i.1 : Nat))]) (fun i w => i.1 ≤ rows.length ∧ BRow i.2.1 (rows.take i.1).flatten i.2.2 ∧ St w0 [] [i.2.2, G1] w) (fun i => rows.length - i.1) (0, .slice none 0 0, [])
        ⟨rfl, rfl, rfl, rfl, rfl, rfl, trivial⟩ ⟨Nat.zero_le _, Row.nil _ _, hS.empty⟩ ?_
    rintro ⟨i, v, R⟩ w ⟨hi, hR, hS⟩
    dsimp only at hi hR hS ⊢
    have hwl := wt_length rows
    refine W_seq ?_
    refine W_seq ?_
    refine W_region ?_
    refine O_move rfl rfl rfl ?_
    refine O_move rfl rfl rfl ?_
    refine O_len rfl rfl rfl rfl ?_
    refine O_bin rfl rfl rfl rfl rfl ?_
    refine O_end ?_
    refine W_if rfl (fun c18 => ?_) (fun c18 => ?_)
    · skip
      refine W_skip ?_
      refine W_seq ?_
      refine W_block ?_
      refine W_region ?_
      refine O_move rfl rfl rfl ?_
      refine O_move rfl rfl rfl ?_
      refine O_move rfl rfl rfl ?_
      have hlt : i < rows.length := by have := of_decide_eq_true c18; omega
      obtain ⟨vs, Ai, ci, hv1, hv2, hv3, hv4, hv5⟩ := hr.at i hlt
      have hf1 := flatten_get_le rows i hlt
      refine O_indexRd rfl rfl rfl rfl (hS.rd hv1 hv2) (by simpa using hv3) hlt (fun ad hA hc => ?_)
      refine O_load rfl rfl rfl rfl hc ?_
      refine O_append hS hR rfl rfl (by decide) rfl rfl rfl (news := bvs rows[i]) (by simp) (hS.rd hv4 hv5) (bvs_one _) (by omega) (by unfold maxLen; omega) (fun v R w hR hS => ?_)
      refine O_assign rfl rfl rfl ?_
      refine O_end ?_
      refine W_region ?_
      refine O_move rfl rfl rfl ?_
      refine O_bin rfl rfl rfl rfl (i64_succ i (by omega)) ?_
      refine O_assign rfl rfl rfl ?_
      refine O_end ?_
      refine ⟨(i + 1, v, R), ⟨rfl, rfl, rfl, rfl, rfl, rfl, trivial⟩, ⟨hlt, ?_, hS⟩, by dsimp only; omega⟩
      dsimp only
      rw [flatten_snoc rows i hlt]
      exact brow_append hR rfl
    · skip
      refine W_exit ?_
      refine W_seq ?_
      refine W_region ?_
      refine O_move rfl rfl rfl ?_
      have hi' : i = rows.length := by have := of_decide_eq_false c18; omega
      subst hi'
      rw [List.take_length] at hR
      obtain ⟨A2, c2, rfl, _⟩ := hR.form
      refine O_call rfl rfl rfl (sum_spec (hr.st hS) (by omega)) (fun r w ⟨hr1, hk⟩ => ?_)
      subst hr1
      have hS := hS.after0 hk
      refine O_assign rfl rfl rfl ?_
      refine O_end ?_
      refine W_seq ?_
      refine W_seq ?_
      refine W_region ?_
      refine O_move rfl rfl rfl ?_
      refine O_move rfl rfl rfl ?_
      obtain ⟨Aq, cq, hq, _, _, hrd2, _⟩ := hR.rd hS
      cases hq
      obtain ⟨Aq, cq, hq, _, _, hrd1, _⟩ := hG1.rd hS.f1
      cases hq
      refine O_call rfl rfl rfl (same_spec hrd1 hrd2 (by omega)) (fun r w ⟨hr1, hk⟩ => ?_)
      subst hr1
      have hS := hS.after0 hk
      have hsame : (!decide (rows.flatten = rows.flatten)) = false := by simp
      refine O_not rfl rfl rfl ?_
      refine O_move rfl rfl rfl ?_
      refine O_know 33 (.bool false) rfl (congrArg Value.bool (hsame)) ?_
      refine O_move rfl rfl rfl ?_
      refine O_move rfl rfl rfl ?_
      obtain ⟨Aq, cq, hq, _, _, hrd2, _⟩ := hR.rd hS
      cases hq
      refine O_call rfl rfl rfl (refSum_spec hrd2 (by omega)) (fun r w ⟨hr1, hk⟩ => ?_)
      subst hr1
      have hS := hS.after0 hk
      refine O_bin rfl rfl rfl rfl rfl ?_
      first | refine O_pick_true rfl rfl rfl rfl ?_ | refine O_pick_false rfl rfl rfl rfl ?_
      refine O_move rfl rfl rfl ?_
      refine O_know 39 (.bool false) rfl (congrArg Value.bool ((uv_beq rfl))) ?_
      refine O_move rfl rfl rfl ?_
      refine O_lit hS rfl rfl rfl rfl rfl rfl (Nat.le_of_ble_eq_true rfl) (fun b41 w hS => ?_)
      have hn1 := hS.rdAll
      have hS := hS.f1
      obtain ⟨Aq, cq, hq, _, _, hn2, _⟩ := hR.rd hS
      cases hq
      have hb1 : RdB w (some ⟨b41, 0, none⟩) [rows.flatten] [] := RdB.one hn1 rfl (Apart.of_nil _ _) hn2 (Apart.of_nil _ _)
      have hsum1 := sum_spec (c := 1) hb1 (by simp only [wt, List.map_cons, List.map_nil, List.sum_cons, List.sum_nil, List.length_set]; omega)
      simp only [List.flatten_cons, List.flatten_nil, List.append_nil] at hsum1
      refine O_call rfl rfl rfl hsum1 (fun r w ⟨hr1, hk⟩ => ?_)
      subst hr1
      have hS := hS.after0 hk
      refine O_move rfl rfl rfl ?_
      refine O_bin rfl rfl rfl rfl rfl ?_
      first | refine O_pick_true rfl rfl rfl rfl ?_ | refine O_pick_false rfl rfl rfl rfl ?_
      refine O_end ?_
      refine W_if_false rfl ((uv_beq rfl)) ?_
      refine W_skip ?_
      refine W_seq ?_
      refine W_seq ?_
      refine W_region ?_
      refine O_move rfl rfl rfl ?_
      refine O_len rfl rfl rfl rfl ?_
      refine O_bin rfl rfl rfl rfl rfl ?_
      refine O_move rfl rfl rfl ?_
      refine O_part 49 rfl (fun c49 => ?_) (fun c49 => ?_)
      · skip
        refine O_move rfl rfl rfl ?_
        refine O_bin rfl rfl rfl rfl rfl ?_
        first | refine O_pick_true rfl rfl rfl rfl ?_ | refine O_pick_false rfl rfl rfl rfl ?_
        refine O_end ?_
        refine W_if rfl (fun c52 => ?_) (fun c52 => ?_)
        · skip
          refine W_seq ?_
          refine W_region ?_
          have hy : y ≠ 0 := by
            rintro rfl
            exact absurd c52 (by decide)
          rcases hR.2 with ⟨_, hz, _⟩ | ⟨g, cap, cur, hq, rfl, hcc1, hcc2, hcc3, _⟩
          · have := of_decide_eq_true c49; omega
          cases hq
          refine O_move rfl rfl rfl ?_
          refine O_move rfl rfl rfl ?_
          obtain ⟨m, hm1, hm2⟩ := and_mask at_
          refine O_bin rfl rfl rfl rfl hm2 ?_
          refine O_move rfl rfl rfl ?_
          refine O_len rfl rfl rfl rfl ?_
          have hpos : 0 < rows.flatten.length := by have := of_decide_eq_true c49; omega
          refine O_rem rfl rfl rfl rfl hpos ?_
          have hk0 := Nat.mod_lt m hpos
          obtain ⟨k, hk⟩ : ∃ k, k = m % rows.flatten.length := ⟨_, rfl⟩
          refine O_know 58 (.int .i64 (k : Int)) rfl (by rw [hk]) ?_
          rw [← hk] at hk0
          obtain ⟨_, _, hq, _, _, hrd3, _⟩ := hR.rd hS
          cases hq
          refine O_indexRd (j := k) rfl rfl rfl rfl hrd3 (v := bv rows.flatten[k]) (bvs_at (by simp [hk0])) hk0 (fun ad hA hc => ?_)
          refine O_load rfl rfl rfl rfl hc ?_
          refine O_move rfl rfl rfl ?_
          refine O_bin rfl rfl rfl rfl (ev_xor8 _ _) ?_
          refine O_indexOwn (j := k) rfl rfl rfl rfl hk0 ?_
          refine O_store hS rfl rfl rfl rfl (by omega) (fun w hS => ?_)
          rw [show 0 + k * 1 = k by omega] at hS
          refine O_end ?_
          refine W_seq ?_
          refine W_region ?_
          refine O_move rfl rfl rfl ?_
          refine O_lit hS rfl rfl rfl rfl rfl rfl (Nat.le_of_ble_eq_true rfl) (fun b65 w hS => ?_)
          have hR2 := hR.set k (bv (rows.flatten[k] ^^^ y))
          rw [show (bvs rows.flatten).set k (bv (rows.flatten[k] ^^^ y)) = bvs (rows.flatten.set k (rows.flatten[k] ^^^ y)) from by simp [bvs, List.map_set]] at hR2
          have hn1 := hS.rdAll
          have hS := hS.f1
          obtain ⟨Aq, cq, hq, _, _, hn2, _⟩ := hR2.rd hS
          cases hq
          have hb1 : RdB w (some ⟨b65, 0, none⟩) [rows.flatten.set k (rows.flatten[k] ^^^ y)] [] := RdB.one hn1 (by simp) (Apart.of_nil _ _) hn2 (Apart.of_nil _ _)
          have hsum1 := sum_spec (c := 1) hb1 (by simp only [wt, List.map_cons, List.map_nil, List.sum_cons, List.sum_nil, List.length_set]; omega)
          simp only [List.flatten_cons, List.flatten_nil, List.append_nil] at hsum1
          refine O_call rfl rfl rfl hsum1 (fun r w ⟨hr1, hk1⟩ => ?_)
          subst hr1
          have hS := hS.after0 hk1
          have hne := uv_ne (crc_change rows.flatten k hk0 (rows.flatten[k] ^^^ y) (xor_ne hy))
          refine O_move rfl rfl rfl ?_
          refine O_bin rfl rfl rfl rfl rfl ?_
          refine O_end ?_
          refine W_if_false rfl (hne) ?_
          refine W_skip ?_
          refine W_seq ?_
          refine W_region ?_
          refine O_call rfl rfl rfl known_spec (fun r w ⟨hr1, hk⟩ => ?_)
          subst hr1
          have hS := hS.after0 hk
          refine O_assign rfl rfl rfl ?_
          refine O_end ?_
          refine W_ret ⟨_, rfl, ?_⟩
          exact ⟨rfl, _, hS⟩
        · skip
          refine W_skip ?_
          refine W_seq ?_
          refine W_region ?_
          refine O_call rfl rfl rfl known_spec (fun r w ⟨hr1, hk⟩ => ?_)
          subst hr1
          have hS := hS.after0 hk
          refine O_assign rfl rfl rfl ?_
          refine O_end ?_
          refine W_ret ⟨_, rfl, ?_⟩
          exact ⟨rfl, _, hS⟩
      · skip
        refine O_skip rfl rfl ?_
        refine O_skip rfl rfl ?_
        first | refine O_pick_true rfl rfl rfl rfl ?_ | refine O_pick_false rfl rfl rfl rfl ?_
        refine O_end ?_
        refine W_if_false rfl (rfl) ?_
        refine W_skip ?_
        refine W_seq ?_
        refine W_region ?_
        refine O_call rfl rfl rfl known_spec (fun r w ⟨hr1, hk⟩ => ?_)
        subst hr1
        have hS := hS.after0 hk
        refine O_assign rfl rfl rfl ?_
        refine O_end ?_
        refine W_ret ⟨_, rfl, ?_⟩
        exact ⟨rfl, _, hS⟩

end Go.Proofs.Ytnbkeiekoncpnaa.R
