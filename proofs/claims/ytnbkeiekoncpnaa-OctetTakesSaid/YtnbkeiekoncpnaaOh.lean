/- Any numbers as bytes, and back: the law's walk. -/
import Derived.Test.YtnbkeiekoncpnaaOg
namespace Go.Proofs.Ytnbkeiekoncpnaa.R
open Go Go.RowKit Go.Proofs
set_option linter.unusedVariables false
set_option linter.unusedSimpArgs false
set_option maxRecDepth 20000

theorem octetNums_spec {w0 : World} {A : Option Addr} {ns : List Int} {c : Nat} (hr : Rd w0 A (ns.map iv)) : Calls Try.prog 4 #[.slice A ns.length c] w0 (Ret fun r w => r = .bool true ∧ ∃ Gs, St w0 [] Gs w) := by
  have hS : Own [] w0 := St.start w0
  refine calls_enter (l := [.slice A ns.length c]) Try.func4 rfl Try.ntmps4 Try.results4 (Nat.le_of_ble_eq_true rfl) ?_
  refine W_seq ?_
  refine W_region ?_
  refine O_assign rfl rfl rfl ?_
  refine O_end ?_
  refine W_seq ?_
  refine W_seq ?_
  refine W_region ?_
  refine O_move rfl rfl rfl ?_
  refine O_len rfl rfl rfl rfl ?_
  refine O_bin rfl rfl rfl rfl rfl ?_
  refine O_end ?_
  refine W_if rfl (fun c9 => ?_) (fun c9 => ?_)
  · skip
    refine W_seq ?_
    refine W_region ?_
    refine O_assign rfl rfl rfl ?_
    refine O_end ?_
    refine W_ret ⟨_, rfl, ?_⟩
    exact ⟨rfl, _, hS⟩
  · skip
    refine W_skip ?_
    refine W_seq ?_
    refine W_region ?_
    refine O_alloc hS rfl rfl (fun b3 w hS => ?_)
    have hS : St w0 [] [wcell b3 (.slice none 0 0), []] w := hS.empty.f1
    have h500 : ns.length ≤ 500 := by have := of_decide_eq_false c9; omega
    refine O_end ?_
    refine W_seq ?_
    refine W_region ?_
    refine O_move rfl rfl rfl ?_
    refine O_call rfl rfl rfl (nums_spec (bs := []) hS.own2 (Row.nil _ _) (hS.rd hr (Apart.of_nil _ _)) ((hS.apart hr (Apart.of_nil _ _)).sub (fun x hx => hx)) (by simp; omega)) (fun r w ⟨_, v, R, hR, hk⟩ => ?_)
    have hS := hS.after2 hk
    rw [List.nil_append] at hR
    have hlen := encs_len ns
    refine O_end ?_
    refine W_seq ?_
    refine W_region ?_
    refine O_call rfl rfl rfl (out_spec hS.own2 hR (by omega)) (fun r w ⟨G1, hG1, hk⟩ => ?_)
    have hS := hS.after2 hk
    obtain ⟨A1, c1, rfl, _⟩ := hG1.form
    refine O_assign rfl rfl rfl ?_
    refine O_end ?_
    refine W_seq ?_
    refine W_seq ?_
    refine W_region ?_
    refine O_move rfl rfl rfl ?_
    refine O_move rfl rfl rfl ?_
    refine O_call rfl rfl rfl (refNums_spec (hS.rd hr (Apart.of_nil _ _)) (by omega)) (fun r w ⟨G2, hG2, hk⟩ => ?_)
    have hS := hS.after0 hk
    obtain ⟨A2, c2, rfl, _⟩ := hG2.form
    obtain ⟨A2', c2', hq, _, _, hrd2, _⟩ := hG2.rd hS
    cases hq
    obtain ⟨A1', c1', hq, _, _, hrd1, _⟩ := hG1.rd hS.f1
    cases hq
    refine O_call rfl rfl rfl (same_spec hrd1 hrd2 (by omega)) (fun r w ⟨hr', hk⟩ => ?_)
    subst hr'
    have hS := (hS.after0 hk).drop
    refine O_not rfl rfl rfl ?_
    refine O_end ?_
    refine W_if_false rfl ((by simp)) ?_
    refine W_skip ?_
    refine W_seq ?_
    refine W_region ?_
    refine O_move rfl rfl rfl ?_
    obtain ⟨A1', c1', hq, _, _, hrd1, _⟩ := hG1.rd hS
    cases hq
    refine O_call rfl rfl rfl (newReader_spec hrd1 (by omega)) (fun x w ⟨r1, v1, G3, hx, hV1, hk⟩ => ?_)
    subst hx
    have hS := (hS.after0 hk).drop.drop
    refine O_assign rfl rfl rfl ?_
    refine O_end ?_
    refine W_seq ?_
    refine W_seq ?_
    refine W_region ?_
    refine O_move rfl rfl rfl ?_
    refine O_eql_ptr rfl rfl rfl ?_
    refine O_end ?_
    refine W_if_false rfl (rfl) ?_
    refine W_skip ?_
    refine W_seq ?_
    refine W_region ?_
    refine O_move rfl rfl rfl ?_
    refine O_call rfl rfl rfl (spoil_spec hS.own1 hG1 (by omega)) (fun x w ⟨hx, G4, hk⟩ => ?_)
    have hS := (hS.after1 hk).drop
    refine O_end ?_
    refine W_seq ?_
    refine W_region ?_
    refine O_call rfl rfl rfl (out_spec hS.own2 hR (by omega)) (fun r w ⟨G5, hG5, hk⟩ => ?_)
    have hS := hS.after2 hk
    obtain ⟨A5, c5, rfl, _⟩ := hG5.form
    obtain ⟨A5', c5', hq, _, _, hrd5, _⟩ := hG5.rd hS
    cases hq
    refine O_call rfl rfl rfl (newReader_spec hrd5 (by omega)) (fun x w ⟨r1, v1, G, hx, hV, hk⟩ => ?_)
    subst hx
    have hS := hS.after0 hk
    refine O_assign rfl rfl rfl ?_
    refine O_end ?_
    refine W_seq ?_
    refine W_seq ?_
    refine W_region ?_
    refine O_assign rfl rfl rfl ?_
    refine O_end ?_
    refine W_block ?_
    refine W_loop (ι := Nat × Value × Bool) (fun i => [(0, .slice A ns.length c), (5, .pointer (some ⟨r1, 0, none⟩)), (6, .int .i64 (i.1 : Nat))])
        (fun i w => i.1 ≤ ns.length ∧ RView i.2.1 i.2.2 (some (encs (ns.drop i.1))) G ∧ ∃ Gs, St w0 [] ([rcell r1 i.2.1 i.2.2, G] ++ Gs) w) (fun i => ns.length - i.1) (0, v1, false) ⟨rfl, rfl, rfl, trivial⟩ ⟨Nat.zero_le _, hV, _, hS⟩ ?_
    rintro ⟨j, v1, b1⟩ w ⟨hj, hV, Gs, hS⟩
    dsimp only at hj hV hS ⊢
    refine W_seq ?_
    refine W_seq ?_
    refine W_region ?_
    refine O_move rfl rfl rfl ?_
    refine O_move rfl rfl rfl ?_
    refine O_len rfl rfl rfl rfl ?_
    refine O_bin rfl rfl rfl rfl rfl ?_
    refine O_end ?_
    refine W_if rfl (fun c29 => ?_) (fun c29 => ?_)
    · skip
      refine W_skip ?_
      refine W_seq ?_
      refine W_block ?_
      refine W_seq ?_
      refine W_drawn (fun w => ∃ Gs, St w0 [] Gs w) ?_
      have hS := hS.drew
      refine OA_take 0 rfl (by kernel_rfl) (by kernel_rfl) (by kernel_rfl) rfl rfl ⟨_, hS⟩ (fun w ⟨_, hS⟩ => E_move rfl) ?_
      refine OA_take 2 rfl (by kernel_rfl) (by kernel_rfl) (by kernel_rfl) rfl rfl ⟨_, hS⟩ (fun w ⟨_, hS⟩ => E_move rfl) ?_
      refine OA_take 3 rfl (by kernel_rfl) (by kernel_rfl) (by kernel_rfl) rfl rfl ⟨_, hS⟩ (fun w ⟨_, hS⟩ => E_move rfl) ?_
      have hlt : j < ns.length := by have := of_decide_eq_true c29; omega
      obtain ⟨ad, rfl, _⟩ := hr j (iv ns[j]) (by simp [hlt])
      refine OA_take 4 rfl (by kernel_rfl) (by kernel_rfl) (by kernel_rfl) rfl rfl ⟨_, hS⟩ (fun w ⟨_, hS⟩ => E_indexAddr rfl rfl (by omega) (by omega)) ?_
      refine OA_take 5 rfl (by kernel_rfl) (by kernel_rfl) (by kernel_rfl) rfl rfl ⟨_, hS⟩ (fun w ⟨_, hS⟩ => E_load rfl rfl (by simpa using (hS.rd hr (Apart.of_nil _ _)).cell (j := j) (v := iv ns[j]) (by simp [hlt]))) ?_
      refine OA_take 6 rfl (by kernel_rfl) (by kernel_rfl) (by kernel_rfl) rfl rfl ⟨_, hS⟩ (fun w ⟨_, hS⟩ => E_min rfl) ?_
      refine OA_take 7 rfl (by kernel_rfl) (by kernel_rfl) (by kernel_rfl) rfl rfl ⟨_, hS⟩ (fun w ⟨_, hS⟩ => E_max rfl) ?_
      refine OA_one 1 rfl (by kernel_rfl) ?_
      refine O_call rfl rfl rfl (rnum_spec hS.own2 hV (by rw [show RSt.left (some (encs (ns.drop j))) = encs (ns.drop j) from rfl]; have := encs_len (ns.drop j); rw [List.length_drop] at this; omega)) (fun x w ⟨hx, v1, b1, hV, hk⟩ => ?_)
      subst hx
      have hS := hS.after2 hk
      have hrn := rnum_enc (clampN ns[j]) (encs (ns.drop (j + 1))) (clampN_le _)
      rw [← encs_drop ns j hlt] at hrn
      rw [hrn] at hV
      have hnum : (rnum (some (encs (ns.drop j)))).1 = clampN ns[j] := by rw [hrn]
      refine O_end ⟨⟨_, hS⟩, ?_⟩
      refine OA_take 8 rfl (by kernel_rfl) (by kernel_rfl) (by kernel_rfl) rfl rfl ⟨_, hS⟩ (fun w ⟨_, hS⟩ => E_bin rfl rfl rfl) ?_
      refine OA_end (by kernel_rfl) ?_
      refine W_if_false rfl ((by rw [hnum, clampN_cast]; simp)) ?_
      refine W_skip ?_
      refine W_region ?_
      refine O_move rfl rfl rfl ?_
      refine O_bin rfl rfl rfl rfl (i64_succ j (by omega)) ?_
      refine O_assign rfl rfl rfl ?_
      refine O_end ?_
      exact ⟨(j + 1, v1, b1), ⟨rfl, rfl, rfl, trivial⟩, ⟨hlt, hV, _, hS⟩, by dsimp only; omega⟩
    · skip
      refine W_exit ?_
      refine W_seq ?_
      refine W_region ?_
      refine O_move rfl rfl rfl ?_
      refine O_call rfl rfl rfl (good_spec hS.own2) (fun x w ⟨hx, hk⟩ => ?_)
      subst hx
      have hS := hS.after2 hk
      have hwhole : decide ((some (encs (ns.drop j)) : RSt) = some []) = true := by
        rw [List.drop_eq_nil_of_le (by have := of_decide_eq_false c29; omega)]; rfl
      refine O_move rfl rfl rfl ?_
      refine O_know 43 (.bool true) rfl (congrArg Value.bool ((by rw [hV.1]; rfl))) ?_
      refine O_move rfl rfl rfl ?_
      refine O_call rfl rfl rfl (whole_spec hS.own2 hV) (fun x w ⟨hx, hk⟩ => ?_)
      subst hx
      have hS := hS.after2 hk
      first | refine O_pick_true rfl rfl rfl rfl ?_ | refine O_pick_false rfl rfl rfl rfl ?_
      refine O_move rfl rfl rfl ?_
      refine O_know 47 (.bool true) rfl (congrArg Value.bool (hwhole)) ?_
      refine O_call rfl rfl rfl known_spec (fun r w ⟨hr', hk⟩ => ?_)
      subst hr'
      have hS := hS.after0 hk
      first | refine O_pick_true rfl rfl rfl rfl ?_ | refine O_pick_false rfl rfl rfl rfl ?_
      refine O_assign rfl rfl rfl ?_
      refine O_end ?_
      refine W_ret ⟨_, rfl, ?_⟩
      exact ⟨rfl, _, hS⟩

end Go.Proofs.Ytnbkeiekoncpnaa.R
