/- Rows joined in two parts: the law's walk. -/
import Derived.Test.YtnbkeiekoncpnaaOi
namespace Go.Proofs.Ytnbkeiekoncpnaa.R
open Go Go.RowKit Go.Proofs
set_option linter.unusedVariables false
set_option linter.unusedSimpArgs false
set_option maxRecDepth 20000

/-- The cells of a slice of rows. -/
def Vals (w : World) (rows : List (List UInt8)) (vs : List Value) : Prop :=
  vs.length = rows.length ∧ ∀ (i : Nat) (bs : List UInt8), rows[i]? = some bs → ∃ (Ai : Option Addr) (ci : Nat), vs[i]? = some (Value.slice Ai bs.length ci) ∧ Rd w Ai (bvs bs)
theorem RdB.vals {w : World} {F : List Nat} {A : Option Addr} {rows : List (List UInt8)} (h : RdB w A rows F) : ∃ vs, Vals w rows vs ∧ Rd w A vs := by
  obtain ⟨vs, h1, h2, _, h4⟩ := h
  refine ⟨vs, ⟨by simpa using h1, fun i bs hb => ?_⟩, h2⟩
  obtain ⟨Ai, ci, h5, h6, _⟩ := h4 i (bvs bs) (by simp [hb])
  exact ⟨Ai, ci, by simpa using h5, h6⟩
theorem Vals.one {w : World} {rows : List (List UInt8)} {vs : List Value} (h : Vals w rows vs) : ∀ u ∈ vs, u.oneCell' = true := by
  intro u hu
  obtain ⟨i, hi, rfl⟩ := List.getElem_of_mem hu
  have hi' : i < rows.length := by rw [← h.1]; exact hi
  obtain ⟨Ai, ci, h1, _⟩ := h.2 i rows[i] (by simp [hi'])
  rw [List.getElem?_eq_getElem hi, Option.some.injEq] at h1
  show (vs[i]).oneCell' = true
  rw [h1]; rfl
theorem Vals.append {w : World} {r1 r2 : List (List UInt8)} {v1 v2 : List Value} (h1 : Vals w r1 v1) (h2 : Vals w r2 v2) : Vals w (r1 ++ r2) (v1 ++ v2) := by
  refine ⟨by rw [List.length_append, List.length_append, h1.1, h2.1], fun i bs hb => ?_⟩
  rw [List.getElem?_append] at hb ⊢
  rw [h1.1]
  split at hb
  · rename_i hi
    rw [if_pos hi]
    exact h1.2 i bs hb
  · rename_i hi
    rw [if_neg hi]
    exact h2.2 _ bs hb
theorem Vals.rdb {w0 w : World} {Gs : List (List Chunk)} {G : List Chunk} {rows : List (List UInt8)} {vs : List Value} {e : TypeId} {A : Option Addr} {n c : Nat} (h : Vals w0 rows vs) (hR : Row e 1 (.slice A n c) n vs G) (hS : St w0 [] (G :: Gs) w) : RdB w A rows [] := by
  obtain ⟨A', c', hq, _, _, h3, _⟩ := hR.rd hS
  cases hq
  refine ⟨vs, by simpa using h.1, h3, Apart.of_nil _ _, fun i xs hx => ?_⟩
  rw [List.getElem?_map] at hx
  cases hb : rows[i]? with
  | none => simp [hb] at hx
  | some bs =>
    simp [hb] at hx
    subst hx
    obtain ⟨Ai, ci, h4, h5⟩ := h.2 i bs hb
    exact ⟨Ai, ci, by simpa using h4, hS.rd h5 (Apart.of_nil _ _), Apart.of_nil _ _⟩

set_option maxHeartbeats 800000 in
theorem octetJoins_spec {w0 : World} {A B : Option Addr} {ra rb : List (List UInt8)} {c d : Nat} (hra : RdB w0 A ra []) (hrb : RdB w0 B rb []) (hca : ra.length ≤ c) (hcb : rb.length ≤ d) :
    Calls Try.prog 6 #[.slice A ra.length c, .slice B rb.length d] w0 (Ret fun r w => r = .bool true ∧ ∃ Gs, St w0 [] Gs w) := by
  have hS : Own [] w0 := St.start w0
  refine calls_enter (l := [.slice A ra.length c, .slice B rb.length d]) Try.func6 rfl Try.ntmps6 Try.results6 (Nat.le_of_ble_eq_true rfl) ?_
  refine W_seq ?_
  refine W_region ?_
  refine O_assign rfl rfl rfl ?_
  refine O_end ?_
  refine W_seq ?_
  refine W_seq ?_
  refine W_region ?_
  refine O_move rfl rfl rfl ?_
  refine O_call rfl rfl rfl (heavy_spec hra) (fun r w ⟨hr1, hk⟩ => ?_)
  subst hr1
  have hS := hS.after0 hk
  refine O_move rfl rfl rfl ?_
  refine O_part 11 rfl (fun c11 => ?_) (fun c11 => ?_)
  · skip
    refine O_skip rfl rfl ?_
    refine O_skip rfl rfl ?_
    first | refine O_pick_true rfl rfl rfl rfl ?_ | refine O_pick_false rfl rfl rfl rfl ?_
    refine O_end ?_
    refine W_if_true rfl (rfl) ?_
    refine W_seq ?_
    refine W_region ?_
    refine O_assign rfl rfl rfl ?_
    refine O_end ?_
    refine W_ret ⟨_, rfl, ?_⟩
    exact ⟨rfl, _, hS⟩
  · skip
    refine O_move rfl rfl rfl ?_
    refine O_call rfl rfl rfl (heavy_spec (hrb.st hS)) (fun r w ⟨hr1, hk⟩ => ?_)
    subst hr1
    have hS := hS.after0 hk
    first | refine O_pick_true rfl rfl rfl rfl ?_ | refine O_pick_false rfl rfl rfl rfl ?_
    refine O_end ?_
    refine W_if rfl (fun c14 => ?_) (fun c14 => ?_)
    · skip
      refine W_seq ?_
      refine W_region ?_
      refine O_assign rfl rfl rfl ?_
      refine O_end ?_
      refine W_ret ⟨_, rfl, ?_⟩
      exact ⟨rfl, _, hS⟩
    · skip
      refine W_skip ?_
      refine W_seq ?_
      refine W_region ?_
      refine O_lit hS rfl rfl rfl rfl rfl rfl (Nat.le_of_ble_eq_true rfl) (fun b15 w hS => ?_)
      refine O_move rfl rfl rfl ?_
      have hwa := heavy_wt c11
      have hwb := heavy_wt c14
      have hla := wt_length ra
      have hlb := wt_length rb
      have hfa := flatten_len ra
      have hfb := flatten_len rb
      obtain ⟨va, hva, hrva⟩ := hra.vals
      obtain ⟨vb, hvb, hrvb⟩ := hrb.vals
      refine O_append hS (Row.made (size := 1) (by simp [maxLen]) (Nat.zero_le _)) rfl rfl (by decide) rfl rfl rfl (news := va) (by rw [hva.1, Nat.mul_one]) (hS.rd hrva (Apart.of_nil _ _)) hva.one (by omega) (by unfold maxLen; omega) (fun v R w hR hS => ?_)
      refine O_move rfl rfl rfl ?_
      refine O_append hS hR rfl rfl (by decide) rfl rfl rfl (news := vb) (by rw [hvb.1, Nat.mul_one]) (hS.rd hrvb (Apart.of_nil _ _)) hvb.one (by omega) (by unfold maxLen; omega) (fun v GL w hRL hS => ?_)
      have hvals := hva.append hvb
      rw [List.nil_append, show 0 + ra.length + rb.length = (ra ++ rb).length from by rw [List.length_append]; omega] at hRL
      obtain ⟨AL, cL, rfl, hcL, _⟩ := hRL.form
      have hwl : wt (ra ++ rb) ≤ 224000 := by rw [wt_append]; omega
      have hfl := flatten_len (ra ++ rb)
      refine O_assign rfl rfl rfl ?_
      refine O_end ?_
      refine W_seq ?_
      refine W_region ?_
      refine O_move rfl rfl rfl ?_
      refine O_call rfl rfl rfl (Join_spec (hra.st hS) hca (by omega)) (fun r w ⟨GA, hGA, hk⟩ => ?_)
      have hS := hS.after0 hk
      obtain ⟨AA, cA, rfl, _⟩ := hGA.form
      refine O_move rfl rfl rfl ?_
      refine O_call rfl rfl rfl (Join_spec (hrb.st hS) hcb (by omega)) (fun r w ⟨GB, hGB, hk⟩ => ?_)
      have hS := hS.after0 hk
      obtain ⟨AB, cB, rfl, _⟩ := hGB.form
      refine O_lit hS rfl rfl rfl rfl rfl rfl (Nat.le_of_ble_eq_true rfl) (fun b24 w hS => ?_)
      have hn1 := hS.rdAll
      have hS := hS.f1
      obtain ⟨_, _, hq, _, _, hnb, _⟩ := hGB.rd hS
      cases hq
      have hS := hS.f2
      obtain ⟨_, _, hq, _, _, hna, _⟩ := hGA.rd hS
      cases hq
      have hb1 : RdB w (some ⟨b24, 0, none⟩) [ra.flatten, rb.flatten] [] := RdB.two hn1 rfl rfl (Apart.of_nil _ _) hna (Apart.of_nil _ _) hnb (Apart.of_nil _ _)
      have hj1 := Join_spec (c := 2) hb1 (by simp) (by simp only [wt, List.map_cons, List.map_nil, List.sum_cons, List.sum_nil]; omega)
      rw [show [ra.flatten, rb.flatten].flatten = (ra ++ rb).flatten from by simp only [List.flatten_cons, List.flatten_nil, List.append_nil, List.flatten_append]] at hj1
      refine O_call rfl rfl rfl hj1 (fun r w ⟨GX, hGX, hk⟩ => ?_)
      have hS := hS.after0 hk
      obtain ⟨AGX, cGX, rfl, _⟩ := hGX.form
      have hS := hS.f1.drop.f1.drop.f1.drop
      refine O_assign rfl rfl rfl ?_
      refine O_end ?_
      refine W_seq ?_
      refine W_seq ?_
      refine W_region ?_
      refine O_move rfl rfl rfl ?_
      refine O_move rfl rfl rfl ?_
      refine O_call rfl rfl rfl (Join_spec (hvals.rdb hRL hS.f1) hcL (by omega)) (fun r w ⟨GJ, hGJ, hk⟩ => ?_)
      have hS := hS.after0 hk
      obtain ⟨AJ, cJ, rfl, _⟩ := hGJ.form
      obtain ⟨_, _, hq, _, _, hrj, _⟩ := hGJ.rd hS
      cases hq
      obtain ⟨_, _, hq, _, _, hrx, _⟩ := hGX.rd hS.f1
      cases hq
      refine O_call rfl rfl rfl (same_spec hrx hrj (by omega)) (fun r w ⟨hr1, hk⟩ => ?_)
      subst hr1
      have hS := (hS.after0 hk).drop
      have hsame : (!decide ((ra ++ rb).flatten = (ra ++ rb).flatten)) = false := by simp
      refine O_not rfl rfl rfl ?_
      refine O_move rfl rfl rfl ?_
      refine O_know 31 (.bool false) rfl (congrArg Value.bool (hsame)) ?_
      refine O_move rfl rfl rfl ?_
      refine O_call rfl rfl rfl (sum_spec (hvals.rdb hRL hS.f1) (by omega)) (fun r w ⟨hr1, hk⟩ => ?_)
      subst hr1
      have hS := hS.after0 hk
      refine O_move rfl rfl rfl ?_
      refine O_lit hS rfl rfl rfl rfl rfl rfl (Nat.le_of_ble_eq_true rfl) (fun b35 w hS => ?_)
      have hn1 := hS.rdAll
      have hS := hS.f1
      obtain ⟨_, _, hq, _, _, hn2, _⟩ := hGX.rd hS
      cases hq
      have hb1 : RdB w (some ⟨b35, 0, none⟩) [(ra ++ rb).flatten] [] := RdB.one hn1 rfl (Apart.of_nil _ _) hn2 (Apart.of_nil _ _)
      have hsum1 := sum_spec (c := 1) hb1 (by simp only [wt, List.map_cons, List.map_nil, List.sum_cons, List.sum_nil]; omega)
      rw [show [(ra ++ rb).flatten].flatten = (ra ++ rb).flatten from by simp only [List.flatten_cons, List.flatten_nil, List.append_nil]] at hsum1
      refine O_call rfl rfl rfl hsum1 (fun r w ⟨hr1, hk⟩ => ?_)
      subst hr1
      have hS := (hS.after0 hk).f1.drop
      refine O_bin rfl rfl rfl rfl rfl ?_
      first | refine O_pick_true rfl rfl rfl rfl ?_ | refine O_pick_false rfl rfl rfl rfl ?_
      refine O_end ?_
      refine W_if_false rfl ((uv_beq rfl)) ?_
      refine W_skip ?_
      refine W_seq ?_
      refine W_region ?_
      refine O_assign rfl rfl rfl ?_
      refine O_end ?_
      refine W_seq ?_
      refine W_seq ?_
      refine W_region ?_
      refine O_assign rfl rfl rfl ?_
      refine O_end ?_
      refine W_block ?_
      refine W_loop (ι := Nat) (fun i => [(0, .slice A ra.length c), (1, .slice B rb.length d), (5, .slice AL (ra ++ rb).length cL), (6, .slice AGX (ra ++ rb).flatten.length cGX), (7, .int .i64 (((ra ++ rb).take i).flatten.length : Nat)), (8, .int .i64 (i : Nat))])
          (fun i w => i ≤ (ra ++ rb).length ∧ St w0 [] [GX, GL] w) (fun i => (ra ++ rb).length - i) 0 ⟨rfl, rfl, rfl, rfl, rfl, rfl, trivial⟩ ⟨Nat.zero_le _, hS⟩ ?_
      rintro i w ⟨hi, hS⟩
      have hf0 := flatten_take_le (ra ++ rb) i
      refine W_seq ?_
      refine W_seq ?_
      refine W_region ?_
      refine O_move rfl rfl rfl ?_
      refine O_move rfl rfl rfl ?_
      refine O_len rfl rfl rfl rfl ?_
      refine O_bin rfl rfl rfl rfl rfl ?_
      refine O_end ?_
      refine W_if rfl (fun c42 => ?_) (fun c42 => ?_)
      · skip
        refine W_skip ?_
        refine W_seq ?_
        refine W_block ?_
        refine W_region ?_
        refine O_move rfl rfl rfl ?_
        refine O_move rfl rfl rfl ?_
        refine O_move rfl rfl rfl ?_
        have hlt : i < (ra ++ rb).length := by have := of_decide_eq_true c42; omega
        obtain ⟨vs, Ai, ci, hv1, hv2, hv3, hv4, hv5⟩ := (hvals.rdb hRL hS.f1).at i hlt
        have hf1 := flatten_get_le (ra ++ rb) i hlt
        refine O_indexRd rfl rfl rfl rfl hv1 (by simpa using hv3) hlt (fun ad hA hc => ?_)
        refine O_load rfl rfl rfl rfl hc ?_
        refine O_len rfl rfl rfl rfl ?_
        refine O_bin rfl rfl rfl rfl (add_i64 _ _ (by omega)) ?_
        refine O_assign rfl rfl rfl ?_
        refine O_end ?_
        refine W_region ?_
        refine O_move rfl rfl rfl ?_
        refine O_bin rfl rfl rfl rfl (i64_succ i (by rw [List.length_append] at hlt; omega)) ?_
        refine O_assign rfl rfl rfl ?_
        refine O_end ?_
        refine ⟨i + 1, ⟨rfl, rfl, rfl, rfl, ?_, rfl, trivial⟩, ⟨hlt, hS⟩, by omega⟩
        rw [flatten_snoc_len (ra ++ rb) i hlt]
        rfl
      · skip
        refine W_exit ?_
        refine W_seq ?_
        refine W_region ?_
        refine O_move rfl rfl rfl ?_
        refine O_call rfl rfl rfl (spoil_spec hS.own1 hGX (by omega)) (fun x w ⟨hx, GX2, hk⟩ => ?_)
        have hS := hS.after1 hk
        refine O_end ?_
        refine W_seq ?_
        refine W_region ?_
        have hi' : i = (ra ++ rb).length := by have := of_decide_eq_false c42; omega
        have hlen : (((ra ++ rb).flatten.length : Int) == (((ra ++ rb).take i).flatten.length : Int)) = true := by rw [hi', List.take_length]; simp
        refine O_move rfl rfl rfl ?_
        refine O_len rfl rfl rfl rfl ?_
        refine O_move rfl rfl rfl ?_
        refine O_bin rfl rfl rfl rfl rfl ?_
        refine O_move rfl rfl rfl ?_
        refine O_know 58 (.bool true) rfl (congrArg Value.bool (hlen)) ?_
        refine O_move rfl rfl rfl ?_
        refine O_call rfl rfl rfl (Join_spec (hvals.rdb hRL hS.f1) hcL (by omega)) (fun r w ⟨GJ, hGJ, hk⟩ => ?_)
        have hS := hS.after0 hk
        obtain ⟨AJ, cJ, rfl, _⟩ := hGJ.form
        refine O_move rfl rfl rfl ?_
        refine O_call rfl rfl rfl (Join_spec (hra.st hS) hca (by omega)) (fun r w ⟨GA, hGA, hk⟩ => ?_)
        have hS := hS.after0 hk
        obtain ⟨AA, cA, rfl, _⟩ := hGA.form
        refine O_move rfl rfl rfl ?_
        refine O_call rfl rfl rfl (Join_spec (hrb.st hS) hcb (by omega)) (fun r w ⟨GB, hGB, hk⟩ => ?_)
        have hS := hS.after0 hk
        obtain ⟨AB, cB, rfl, _⟩ := hGB.form
        refine O_lit hS rfl rfl rfl rfl rfl rfl (Nat.le_of_ble_eq_true rfl) (fun b65 w hS => ?_)
        have hn1 := hS.rdAll
        have hS := hS.f1
        obtain ⟨_, _, hq, _, _, hnb, _⟩ := hGB.rd hS
        cases hq
        have hS := hS.f2
        obtain ⟨_, _, hq, _, _, hna, _⟩ := hGA.rd hS
        cases hq
        have hb1 : RdB w (some ⟨b65, 0, none⟩) [ra.flatten, rb.flatten] [] := RdB.two hn1 rfl rfl (Apart.of_nil _ _) hna (Apart.of_nil _ _) hnb (Apart.of_nil _ _)
        have hj1 := Join_spec (c := 2) hb1 (by simp) (by simp only [wt, List.map_cons, List.map_nil, List.sum_cons, List.sum_nil]; omega)
        rw [show [ra.flatten, rb.flatten].flatten = (ra ++ rb).flatten from by simp only [List.flatten_cons, List.flatten_nil, List.append_nil, List.flatten_append]] at hj1
        refine O_call rfl rfl rfl hj1 (fun r w ⟨GK, hGK, hk⟩ => ?_)
        have hS := hS.after0 hk
        obtain ⟨AGK, cGK, rfl, _⟩ := hGK.form
        obtain ⟨_, _, hq, _, _, hrk, _⟩ := hGK.rd hS
        cases hq
        obtain ⟨_, _, hq, _, _, hrj, _⟩ := hGJ.rd hS.f4
        cases hq
        refine O_call rfl rfl rfl (same_spec hrj hrk (by omega)) (fun r w ⟨hr1, hk⟩ => ?_)
        subst hr1
        have hS := hS.after0 hk
        have hsame2 : decide ((ra ++ rb).flatten = (ra ++ rb).flatten) = true := by simp
        first | refine O_pick_true rfl rfl rfl rfl ?_ | refine O_pick_false rfl rfl rfl rfl ?_
        refine O_move rfl rfl rfl ?_
        refine O_know 69 (.bool true) rfl (congrArg Value.bool (hsame2)) ?_
        refine O_call rfl rfl rfl known_spec (fun r w ⟨hr1, hk⟩ => ?_)
        subst hr1
        have hS := hS.after0 hk
        first | refine O_pick_true rfl rfl rfl rfl ?_ | refine O_pick_false rfl rfl rfl rfl ?_
        refine O_assign rfl rfl rfl ?_
        refine O_end ?_
        refine W_ret ⟨_, rfl, ?_⟩
        exact ⟨rfl, _, hS⟩

end Go.Proofs.Ytnbkeiekoncpnaa.R
