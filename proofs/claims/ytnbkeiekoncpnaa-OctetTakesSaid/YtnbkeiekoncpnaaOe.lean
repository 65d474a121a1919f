/- A number has as few bytes as it can: the law's walk. -/
import Derived.Test.YtnbkeiekoncpnaaOd
namespace Go.Proofs.Ytnbkeiekoncpnaa.R
open Go Go.RowKit Go.Proofs
set_option linter.unusedVariables false
set_option linter.unusedSimpArgs false
set_option maxRecDepth 20000

theorem octetSmall_spec {w0 : World} {v : Int} : Calls Try.prog 3 #[.int .i64 v] w0 (Ret fun r w => r = .bool true ∧ ∃ Gs, St w0 [] Gs w) := by
  have hS : Own [] w0 := St.start w0
  refine calls_enter (l := [.int .i64 v]) Try.func3 rfl Try.ntmps3 Try.results3 (Nat.le_of_ble_eq_true rfl) ?_
  refine W_seq ?_
  refine W_region ?_
  refine O_assign rfl rfl rfl ?_
  refine O_end ?_
  refine W_seq ?_
  refine W_seq ?_
  refine W_region ?_
  refine O_move rfl rfl rfl ?_
  refine O_bin rfl rfl rfl rfl rfl ?_
  refine O_move rfl rfl rfl ?_
  refine O_part 9 rfl (fun c9 => ?_) (fun c9 => ?_)
  · skip
    refine O_skip rfl rfl ?_
    refine O_skip rfl rfl ?_
    first | refine O_pick_true rfl rfl rfl rfl ?_ | refine O_pick_false rfl rfl rfl rfl ?_
    refine O_end ?_
    refine W_if_true rfl (rfl) ?_
    refine W_seq ?_
    refine W_region ?_
    refine O_call rfl rfl rfl known_spec (fun r w ⟨hr, hk⟩ => ?_)
    subst hr
    have hS := hS.after0 hk
    refine O_assign rfl rfl rfl ?_
    refine O_end ?_
    refine W_ret ⟨_, rfl, ?_⟩
    exact ⟨rfl, _, hS⟩
  · skip
    refine O_move rfl rfl rfl ?_
    refine O_bin rfl rfl rfl rfl rfl ?_
    first | refine O_pick_true rfl rfl rfl rfl ?_ | refine O_pick_false rfl rfl rfl rfl ?_
    refine O_end ?_
    refine W_if rfl (fun c12 => ?_) (fun c12 => ?_)
    · skip
      refine W_seq ?_
      refine W_region ?_
      refine O_call rfl rfl rfl known_spec (fun r w ⟨hr, hk⟩ => ?_)
      subst hr
      have hS := hS.after0 hk
      refine O_assign rfl rfl rfl ?_
      refine O_end ?_
      refine W_ret ⟨_, rfl, ?_⟩
      exact ⟨rfl, _, hS⟩
    · skip
      refine W_skip ?_
      refine W_seq ?_
      refine W_region ?_
      have h0 : 0 ≤ v := by have := of_decide_eq_false c9; omega
      have h1 : v ≤ 4611686018427387904 := by have := of_decide_eq_false c12; omega
      obtain ⟨u, rfl⟩ : ∃ u : Nat, v = u := ⟨v.toNat, by omega⟩
      have hu : u ≤ 4611686018427387904 := by omega
      refine O_alloc hS rfl rfl (fun b3 w hS => ?_)
      have hS : St w0 [] [wcell b3 (.slice none 0 0), []] w := hS.empty.f1
      refine O_end ?_
      refine W_seq ?_
      refine W_region ?_
      refine O_move rfl rfl rfl ?_
      refine O_lit hS rfl rfl rfl rfl rfl rfl (Nat.le_of_ble_eq_true rfl) (fun b15 w hS => ?_)
      have hn := hS.rdAll
      have hna := hS.apart_first (off := 0) (sp := none) (vs := [iv (u : Int)])
      have hS := hS.f2.f2
      refine O_call rfl rfl rfl (nums_spec (bs := []) (ns := [(u : Int)]) hS.own2 (Row.nil _ _) hn hna (by simp)) (fun r w ⟨_, v, R, hR, hk⟩ => ?_)
      have hS := (hS.after2 hk).f2.drop
      rw [List.nil_append, encs_cons, encs_nil, List.append_nil, clampN_nat u hu] at hR
      refine O_end ?_
      refine W_seq ?_
      refine W_region ?_
      have hle := enc_le u hu
      refine O_call rfl rfl rfl (out_spec hS.own2 hR (by omega)) (fun r w ⟨G, hG, hk⟩ => ?_)
      have hS := hS.after2 hk
      obtain ⟨A, c, rfl, _, _, _, _⟩ := hG.rd hS
      refine O_assign rfl rfl rfl ?_
      refine O_end ?_
      refine W_seq ?_
      refine W_region ?_
      refine O_assign rfl rfl rfl ?_
      refine O_end ?_
      refine W_seq ?_
      refine W_seq ?_
      refine W_region ?_
      refine O_move rfl rfl rfl ?_
      refine O_shift rfl rfl rfl rfl (by omega) (shr7_i64 u) ?_
      refine O_assign rfl rfl rfl ?_
      refine O_end ?_
      refine W_block ?_
      refine W_loop (ι := Nat × Nat) (fun i => [(0, .int .i64 (u : Nat)), (4, .slice A (enc u).length c), (5, .int .i64 (i.1 : Nat)), (6, .int .i64 (i.2 : Nat))])
          (fun i w => i.1 + encMore i.2 = (enc u).length ∧ 1 ≤ i.1 ∧ St w0 [] [G, wcell b3 v, R] w) (fun i => i.2) (1, u / 128) ⟨rfl, rfl, rfl, rfl, trivial⟩ ⟨(enc_length u).symm, Nat.le_refl _, hS⟩ ?_
      rintro ⟨k, x⟩ w ⟨hkk, hk0, hS⟩
      dsimp only at hkk hk0 ⊢
      refine W_seq ?_
      refine W_seq ?_
      refine W_region ?_
      refine O_move rfl rfl rfl ?_
      refine O_bin rfl rfl rfl rfl rfl ?_
      refine O_end ?_
      refine W_if rfl (fun c21 => ?_) (fun c21 => ?_)
      · skip
        refine W_skip ?_
        refine W_seq ?_
        refine W_block ?_
        refine W_region ?_
        refine O_move rfl rfl rfl ?_
        refine O_bin rfl rfl rfl rfl (i64_succ k (by omega)) ?_
        refine O_assign rfl rfl rfl ?_
        refine O_end ?_
        refine W_region ?_
        refine O_move rfl rfl rfl ?_
        refine O_shift rfl rfl rfl rfl (by omega) (shr7_i64 x) ?_
        refine O_assign rfl rfl rfl ?_
        refine O_end ?_
        have hx : 0 < x := by have := of_decide_eq_true c21; omega
        refine ⟨(k + 1, x / 128), ⟨rfl, rfl, rfl, rfl, trivial⟩, ⟨by dsimp only; rw [encMore_pos hx] at hkk; omega, by dsimp only; omega, hS⟩, by dsimp only; omega⟩
      · skip
        refine W_exit ?_
        refine W_seq ?_
        refine W_region ?_
        have hxz : x = 0 := by have := of_decide_eq_false c21; omega
        subst hxz
        rw [show encMore 0 = 0 from rfl, Nat.add_zero] at hkk
        obtain ⟨A', c', hAc, _, _, hrd, _⟩ := hG.rd hS
        cases hAc
        refine O_move rfl rfl rfl ?_
        refine O_len rfl rfl rfl rfl ?_
        refine O_move rfl rfl rfl ?_
        refine O_bin rfl rfl rfl rfl rfl ?_
        have hlen : (((enc u).length : Int) == (k : Int)) = true := by rw [← hkk]; simp
        refine O_move rfl rfl rfl ?_
        refine O_know 30 (.bool true) rfl (congrArg Value.bool (hlen)) ?_
        refine O_move rfl rfl rfl ?_
        obtain ⟨x0, r0, hx0, hx1⟩ := enc_head u
        refine O_indexRd (j := 0) rfl rfl rfl rfl hrd (v := bv x0) (bvs_at (by rw [hx0]; rfl)) (enc_pos u) (fun ad hA hc => ?_)
        refine O_load rfl rfl rfl rfl hc ?_
        refine O_bin rfl rfl rfl rfl rfl ?_
        refine O_move rfl rfl rfl ?_
        refine O_bin rfl rfl rfl rfl rfl ?_
        refine O_eql_bool rfl rfl rfl rfl ?_
        first | refine O_pick_true rfl rfl rfl rfl ?_ | refine O_pick_false rfl rfl rfl rfl ?_
        have hhead : (decide ((x0.toNat : Int) < 128) == decide ((u : Int) < 128)) = true := by
          rw [beq_iff_eq, decide_eq_decide]; omega
        refine O_move rfl rfl rfl ?_
        refine O_know 39 (.bool true) rfl (congrArg Value.bool (hhead)) ?_
        refine O_move rfl rfl rfl ?_
        refine O_bin rfl rfl rfl rfl rfl ?_
        refine O_move rfl rfl rfl ?_
        refine O_part 42 rfl (fun c42 => ?_) (fun c42 => ?_)
        · skip
          refine O_skip rfl rfl ?_
          refine O_skip rfl rfl ?_
          refine O_skip rfl rfl ?_
          refine O_skip rfl rfl ?_
          refine O_skip rfl rfl ?_
          refine O_skip rfl rfl ?_
          first | refine O_pick_true rfl rfl rfl rfl ?_ | refine O_pick_false rfl rfl rfl rfl ?_
          first | refine O_pick_true rfl rfl rfl rfl ?_ | refine O_pick_false rfl rfl rfl rfl ?_
          refine O_move rfl rfl rfl ?_
          refine O_know 51 (.bool true) rfl (congrArg Value.bool (rfl)) ?_
          refine O_call rfl rfl rfl known_spec (fun r w ⟨hr, hk⟩ => ?_)
          subst hr
          have hS := hS.after0 hk
          first | refine O_pick_true rfl rfl rfl rfl ?_ | refine O_pick_false rfl rfl rfl rfl ?_
          refine O_assign rfl rfl rfl ?_
          refine O_end ?_
          refine W_ret ⟨_, rfl, ?_⟩
          exact ⟨rfl, _, hS⟩
        · skip
          refine O_move rfl rfl rfl ?_
          refine O_move rfl rfl rfl ?_
          refine O_bin rfl rfl rfl rfl (v := .int .i64 ((k - 1 : Nat) : Int)) (by show some (Value.int .i64 (IntKind.i64.wrap ((k : Int) - 1))) = _; rw [IntKind.wrap_i64]; congr 2; omega) ?_
          have hk1 : k ≠ 1 := by rintro rfl; exact absurd c42 (by decide)
          have hu2 : 128 ≤ u := by
            rcases Nat.lt_or_ge u 128 with h | h
            · rw [enc_small h] at hkk; simp at hkk; omega
            · exact h
          obtain ⟨r1, x1, hx2, hx3⟩ := enc_last 8 u (by rw [show (128 : Nat) ^ (8 + 1) = 9223372036854775808 from by decide]; omega) hu2
          refine O_indexRd (j := k - 1) rfl rfl rfl rfl hrd (v := bv x1) (bvs_at (by rw [Nat.mul_one, hkk, hx2]; simp)) (by omega) (fun ad hA hc => ?_)
          refine O_load rfl rfl rfl rfl hc ?_
          refine O_bin rfl rfl rfl rfl rfl ?_
          have hlast : ((x1.toNat : Int) != 0) = true := by simpa using hx3
          first | refine O_pick_true rfl rfl rfl rfl ?_ | refine O_pick_false rfl rfl rfl rfl ?_
          first | refine O_pick_true rfl rfl rfl rfl ?_ | refine O_pick_false rfl rfl rfl rfl ?_
          refine O_move rfl rfl rfl ?_
          refine O_know 51 (.bool true) rfl (congrArg Value.bool (hlast)) ?_
          refine O_call rfl rfl rfl known_spec (fun r w ⟨hr, hk⟩ => ?_)
          subst hr
          have hS := hS.after0 hk
          first | refine O_pick_true rfl rfl rfl rfl ?_ | refine O_pick_false rfl rfl rfl rfl ?_
          refine O_assign rfl rfl rfl ?_
          refine O_end ?_
          refine W_ret ⟨_, rfl, ?_⟩
          exact ⟨rfl, _, hS⟩

end Go.Proofs.Ytnbkeiekoncpnaa.R
