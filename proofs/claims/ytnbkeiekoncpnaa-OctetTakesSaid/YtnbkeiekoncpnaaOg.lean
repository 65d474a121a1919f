/- What the laws do besides with bytes: they are spoilt, laid with room, looked at. -/
import Derived.Test.YtnbkeiekoncpnaaOf
import Derived.Test.YtnbkeiekoncpnaaOe
import Derived.Test.YtnbkeiekoncpnaaOc
namespace Go.Proofs.Ytnbkeiekoncpnaa.R
open Go Go.RowKit Go.Proofs
set_option linter.unusedVariables false
set_option linter.unusedSimpArgs false
set_option maxRecDepth 20000

theorem rnum_left (s : RSt) (hl : s.left.length ≤ 1000000000) : (rnum s).2.left.length ≤ 1000000000 := by
  have key : ∀ (l : List UInt8) (i u : Nat) (x : Nat × List UInt8), decGo i u l = some x → x.2.length ≤ l.length := by
    intro l
    induction l with
    | nil => intro i u x h; simp [decGo] at h
    | cons c r ih =>
      intro i u x h
      rw [decGo_cons] at h
      split at h
      · cases h
      · split at h
        · split at h
          · cases h
          · cases h; simp
        · have := ih _ _ _ h; simp only [List.length_cons]; omega
  cases s with
  | none => exact hl
  | some l =>
    unfold rnum
    dsimp only
    cases hd : dec l with
    | none => simp [RSt.left]
    | some x =>
      obtain ⟨u, r⟩ := x
      have := key l 0 0 (u, r) hd
      dsimp only at this
      simp only [RSt.left, Option.getD_some] at hl ⊢
      omega

theorem rbytes_spec {w0 : World} {r : Nat} {v0 : Value} {b0 : Bool} {G : List Chunk} {s : RSt} (hS : Own [rcell r v0 b0, G] w0) (hV : RView v0 b0 s G) (hl : s.left.length ≤ 1000000000) :
    Calls Try.prog 30 #[.pointer (some ⟨r, 0, none⟩)] w0 (Ret fun x w => ∃ v b G', BRow x (rbytes s).1 G' ∧ RView v b (rbytes s).2 G ∧ St w0 (idsOf [rcell r v0 b0, G]) [G', rcell r v b, G] w) := by
  refine calls_enter (l := [.pointer (some ⟨r, 0, none⟩)]) Try.func30 rfl Try.ntmps30 Try.results30 (Nat.le_of_ble_eq_true rfl) ?_
  refine W_seq ?_
  refine W_region ?_
  refine O_assign rfl rfl rfl ?_
  refine O_end ?_
  refine W_seq ?_
  refine W_region ?_
  refine O_move rfl rfl rfl ?_
  refine O_move rfl rfl rfl ?_
  refine O_call rfl rfl rfl (rnum_spec hS.own2 hV hl) (fun x w ⟨hx, v, b, hV1, hk⟩ => ?_)
  subst hx
  have hS := hS.after2 hk
  refine O_call rfl rfl rfl (rraw_spec hS.own2 hV1 (rnum_left s hl)) (fun x w ⟨v2, b2, G', hG, hV2, hk⟩ => ?_)
  have hS := hS.after2 hk
  refine O_assign rfl rfl rfl ?_
  refine O_end ?_
  refine W_ret ⟨_, rfl, ?_⟩
  exact ⟨v2, b2, G', hG, hV2, hS⟩

theorem spoil_spec {w0 : World} {v : Value} {n : Nat} {xs : List Value} {G : List Chunk} (hS : Own [G] w0) (hR : Row 5 1 v n xs G) (hn : n ≤ 1000000000) :
    Calls Try.prog 17 #[v] w0 (Ret fun x w => x = .tuple #[] ∧ ∃ G', St w0 (idsOf [G]) [G'] w) := by
  refine calls_enter (l := [v]) Try.func17 rfl Try.ntmps17 Try.results17 (Nat.le_of_ble_eq_true rfl) ?_
  refine W_seq ?_
  refine W_region ?_
  refine O_move rfl rfl rfl ?_
  refine O_lit hS rfl rfl rfl rfl rfl rfl (Nat.le_of_ble_eq_true rfl) (fun b5 w hS => ?_)
  have hnn : Rd w (some ⟨b5, 0, none⟩) [bv 99] := hS.rdAll
  have hS := hS.f1
  refine O_append hS hR rfl rfl (by decide) rfl rfl rfl (m := 1) (news := [bv 99]) rfl hnn (bvs_one [99]) (by omega) (by unfold maxLen; omega) (fun v1 G1 w hR1 hS => ?_)
  have hS := hS.f1.drop
  rcases hR1.2 with ⟨_, hz, _⟩ | ⟨b, cap, cur, rfl, rfl, hc1, hc2, hc3, _⟩
  · omega
  refine O_assign rfl rfl rfl ?_
  refine O_end ?_
  refine W_seq ?_
  refine W_region ?_
  refine O_assign rfl rfl rfl ?_
  refine O_end ?_
  refine W_block ?_
  refine W_loop (ι := Nat × Array Value) (fun i => [(2, .slice (some ⟨b, 0, none⟩) (n + 1) cap), (3, .int .i64 (i.1 : Nat))]) (fun i w => i.1 ≤ n + 1 ∧ cap ≤ i.2.size ∧ St w0 (idsOf [G]) [[(b, .cells i.2 5 (0, 0))]] w) (fun i => n + 1 - i.1) (0, cur)
      ⟨rfl, rfl, trivial⟩ ⟨Nat.zero_le _, by dsimp only; omega, hS⟩ ?_
  rintro ⟨k, cu⟩ w ⟨hk, hcu, hS⟩
  dsimp only at hk hcu hS ⊢
  refine W_seq ?_
  refine W_seq ?_
  refine W_region ?_
  refine O_move rfl rfl rfl ?_
  refine O_move rfl rfl rfl ?_
  refine O_len rfl rfl rfl rfl ?_
  refine O_bin rfl rfl rfl rfl rfl ?_
  refine O_end ?_
  refine W_if rfl (fun c10 => ?_) (fun c10 => ?_)
  · skip
    refine W_skip ?_
    refine W_seq ?_
    refine W_block ?_
    refine W_region ?_
    refine O_move rfl rfl rfl ?_
    refine O_move rfl rfl rfl ?_
    refine O_indexOwn rfl rfl rfl rfl (by have := of_decide_eq_true c10; omega) ?_
    refine O_store hS rfl rfl rfl rfl (by have := of_decide_eq_true c10; omega) (fun w hS => ?_)
    refine O_end ?_
    refine W_region ?_
    refine O_move rfl rfl rfl ?_
    refine O_bin rfl rfl rfl rfl (i64_succ k (by omega)) ?_
    refine O_assign rfl rfl rfl ?_
    refine O_end ?_
    refine ⟨(k + 1, cu.setIfInBounds (0 + k * 1) (.int .u8 98)), ⟨rfl, rfl, trivial⟩, ⟨?_, ?_, hS⟩, ?_⟩
    · have := of_decide_eq_true c10; dsimp only; omega
    · simpa using hcu
    · have := of_decide_eq_true c10; dsimp only; omega
  · skip
    refine W_exit ?_
    refine ⟨_, rfl, ?_⟩
    exact ⟨rfl, _, hS⟩

theorem roomy_spec {w0 : World} {A : Option Addr} {bs : List UInt8} {c : Nat} (hr : Rd w0 A (bvs bs)) (hb : bs.length ≤ 1000000) :
    Calls Try.prog 25 #[.slice A bs.length c] w0 (Ret fun r w => ∃ G, BRow r (bs ++ [171]) G ∧ St w0 [] [G] w) := by
  have hS : Own [] w0 := St.start w0
  refine calls_enter (l := [.slice A bs.length c]) Try.func25 rfl Try.ntmps25 Try.results25 (Nat.le_of_ble_eq_true rfl) ?_
  refine W_seq ?_
  refine W_region ?_
  refine O_assign rfl rfl rfl ?_
  refine O_end ?_
  refine W_seq ?_
  refine W_region ?_
  refine O_lit hS rfl rfl rfl rfl rfl rfl (Nat.le_of_ble_eq_true rfl) (fun b3 w hS => ?_)
  refine O_move rfl rfl rfl ?_
  refine O_append hS (Row.made (size := 1) (by simp [maxLen]) (Nat.zero_le _)) rfl rfl (by decide) rfl rfl rfl (news := bvs bs) (by simp) (hS.rd hr (Apart.of_nil _ _)) (bvs_one bs) (by omega) (by unfold maxLen; omega) (fun v R w hR hS => ?_)
  refine O_lit hS rfl rfl rfl rfl rfl rfl (Nat.le_of_ble_eq_true rfl) (fun b6 w hS => ?_)
  have hn : Rd w (some ⟨b6, 0, none⟩) [bv 171] := hS.rdAll
  have hS := hS.f1
  refine O_append hS hR rfl rfl (by decide) rfl rfl rfl (m := 1) (news := [bv 171]) rfl hn (bvs_one [171]) (by omega) (by unfold maxLen; omega) (fun v R w hR hS => ?_)
  have hS := hS.f1.drop
  refine O_lit hS rfl rfl rfl rfl rfl rfl (Nat.le_of_ble_eq_true rfl) (fun b8 w hS => ?_)
  have hn : Rd w (some ⟨b8, 0, none⟩) [bv 171] := hS.rdAll
  have hS := hS.f1
  refine O_append hS hR rfl rfl (by decide) rfl rfl rfl (m := 1) (news := [bv 171]) rfl hn (bvs_one [171]) (by omega) (by unfold maxLen; omega) (fun v R w hR hS => ?_)
  have hS := hS.f1.drop
  refine O_move rfl rfl rfl ?_
  refine O_len rfl rfl rfl rfl ?_
  refine O_bin rfl rfl rfl rfl (i64_succ bs.length (by omega)) ?_
  obtain ⟨A', c', rfl, hc1, hc2⟩ := hR.form
  refine O_slice_to rfl rfl rfl rfl (by omega) ?_
  refine O_assign rfl rfl rfl ?_
  refine O_end ?_
  refine W_ret ⟨_, rfl, ?_⟩
  refine ⟨R, ?_, hS⟩
  have h1 := hR.take (k := bs.length + 1) (by omega)
  have h2 : List.take ((bs.length + 1) * 1) (([] : List Value) ++ bvs bs ++ [bv 171] ++ [bv 171]) = bvs (bs ++ [171]) := by
    rw [List.nil_append, Nat.mul_one, bvs_append, List.take_append_of_le_length (by simp), List.take_of_length_le (by simp)]; rfl
  rw [h2] at h1
  simpa [BRow] using h1

theorem stands_spec {w0 : World} {A B : Option Addr} {xs ys : List UInt8} {c d : Nat} (hA : Rd w0 A (bvs xs)) (hB : Rd w0 B (bvs ys)) (hx : xs.length ≤ 100000000) (hy : ys.length ≤ 100000000) (hc : xs.length ≤ c) :
    Calls Try.prog 27 #[.slice A xs.length c, .slice B ys.length d] w0 (Ret fun r w => r = .bool (decide (xs = ys ++ [171])) ∧ St w0 [] [] w) := by
  have hS : Own [] w0 := St.start w0
  refine calls_enter (l := [.slice A xs.length c, .slice B ys.length d]) Try.func27 rfl Try.ntmps27 Try.results27 (Nat.le_of_ble_eq_true rfl) ?_
  refine W_seq ?_
  refine W_region ?_
  refine O_assign rfl rfl rfl ?_
  refine O_end ?_
  refine W_seq ?_
  refine W_region ?_
  refine O_move rfl rfl rfl ?_
  refine O_len rfl rfl rfl rfl ?_
  refine O_move rfl rfl rfl ?_
  refine O_len rfl rfl rfl rfl ?_
  refine O_bin rfl rfl rfl rfl (i64_succ ys.length (by omega)) ?_
  refine O_bin rfl rfl rfl rfl rfl ?_
  refine O_move rfl rfl rfl ?_
  refine O_part 11 rfl (fun c11 => ?_) (fun c11 => ?_)
  · skip
    refine O_move rfl rfl rfl ?_
    refine O_move rfl rfl rfl ?_
    refine O_len rfl rfl rfl rfl ?_
    have hl : xs.length = ys.length + 1 := by have := beq_iff_eq.1 c11; omega
    refine O_slice_to rfl rfl rfl rfl (by omega) ?_
    refine O_move rfl rfl rfl ?_
    have hA1 : Rd w0 A (bvs (xs.take ys.length)) := by rw [bvs_take]; exact hA.take _
    have hsame := same_spec (c := c) (d := d) hA1 hB (by rw [List.length_take]; omega)
    rw [List.length_take, Nat.min_eq_left (by omega)] at hsame
    refine O_call rfl rfl rfl hsame (fun r w ⟨hr, hk⟩ => ?_)
    subst hr
    have hS := hS.after0 hk
    first | refine O_pick_true rfl rfl rfl rfl ?_ | refine O_pick_false rfl rfl rfl rfl ?_
    refine O_move rfl rfl rfl ?_
    refine O_part 19 rfl (fun c19 => ?_) (fun c19 => ?_)
    · skip
      refine O_move rfl rfl rfl ?_
      refine O_move rfl rfl rfl ?_
      refine O_len rfl rfl rfl rfl ?_
      have hlt : ys.length < xs.length := by omega
      refine O_indexRd rfl rfl rfl rfl (hS.rd hA (Apart.of_nil _ _)) (v := bv xs[ys.length]) (bvs_at (by simp [hlt])) hlt (fun ad hA' hc' => ?_)
      refine O_load rfl rfl rfl rfl hc' ?_
      refine O_bin rfl rfl rfl rfl rfl ?_
      first | refine O_pick_true rfl rfl rfl rfl ?_ | refine O_pick_false rfl rfl rfl rfl ?_
      refine O_assign rfl rfl rfl ?_
      refine O_end ?_
      refine W_ret ⟨_, rfl, ?_⟩
      refine ⟨congrArg Value.bool ?_, hS⟩
      have h1 : xs.take ys.length = ys := of_decide_eq_true c19
      have h2 : xs = ys ++ [xs[ys.length]] := by
        have h3 := List.take_append_drop ys.length xs
        rw [h1, List.drop_eq_getElem_cons hlt, List.drop_eq_nil_of_le (by omega)] at h3
        exact h3.symm
      rw [Bool.eq_iff_iff, beq_iff_eq, decide_eq_true_eq]
      constructor
      · intro h
        rw [byte_eq (x := xs[ys.length]) (y := 171) h] at h2
        exact h2
      · intro h
        have h4 : xs[ys.length] = 171 := by simp [h]
        rw [h4]; rfl
    · skip
      refine O_skip rfl rfl ?_
      refine O_skip rfl rfl ?_
      refine O_skip rfl rfl ?_
      refine O_skip rfl rfl ?_
      refine O_skip rfl rfl ?_
      refine O_skip rfl rfl ?_
      first | refine O_pick_true rfl rfl rfl rfl ?_ | refine O_pick_false rfl rfl rfl rfl ?_
      refine O_assign rfl rfl rfl ?_
      refine O_end ?_
      refine W_ret ⟨_, rfl, ?_⟩
      refine ⟨congrArg Value.bool ?_, hS⟩
      have h1 : ¬ xs.take ys.length = ys := of_decide_eq_false c19
      symm
      rw [decide_eq_false_iff_not]
      rintro rfl
      exact h1 (by simp)
  · skip
    refine O_skip rfl rfl ?_
    refine O_skip rfl rfl ?_
    refine O_skip rfl rfl ?_
    refine O_skip rfl rfl ?_
    refine O_skip rfl rfl ?_
    refine O_skip rfl rfl ?_
    first | refine O_pick_true rfl rfl rfl rfl ?_ | refine O_pick_false rfl rfl rfl rfl ?_
    refine O_move rfl rfl rfl ?_
    refine O_know 19 (.bool false) rfl (congrArg Value.bool (rfl)) ?_
    refine O_skip rfl rfl ?_
    refine O_skip rfl rfl ?_
    refine O_skip rfl rfl ?_
    refine O_skip rfl rfl ?_
    refine O_skip rfl rfl ?_
    refine O_skip rfl rfl ?_
    first | refine O_pick_true rfl rfl rfl rfl ?_ | refine O_pick_false rfl rfl rfl rfl ?_
    refine O_assign rfl rfl rfl ?_
    refine O_end ?_
    refine W_ret ⟨_, rfl, ?_⟩
    refine ⟨congrArg Value.bool ?_, hS⟩
    symm
    rw [decide_eq_false_iff_not]
    rintro rfl
    simp at c11

/-- Are rows more than is looked at? -/
def heavyGo (n : Nat) : List (List UInt8) → Bool
  | [] => false
  | x :: r => if x.length > 4000 then true else if n + 3 + x.length > 4000 then true else heavyGo (n + 3 + x.length) r
def heavy (rows : List (List UInt8)) : Bool := heavyGo 0 rows
theorem heavyGo_cons (n : Nat) (x : List UInt8) (r : List (List UInt8)) : heavyGo n (x :: r) = if x.length > 4000 then true else if n + 3 + x.length > 4000 then true else heavyGo (n + 3 + x.length) r := rfl
theorem heavyGo_wt : ∀ (rows : List (List UInt8)) (n : Nat), heavyGo n rows = false → n ≤ 4000 → wt rows + 7 * n ≤ 4 * 4000 * 7 ∧ ∀ x ∈ rows, x.length ≤ 4000 := by
  intro rows
  induction rows with
  | nil => intro n _ hn; simp [wt]; omega
  | cons x r ih =>
    intro n h hn
    rw [heavyGo_cons] at h
    split at h
    · cases h
    · split at h
      · cases h
      · obtain ⟨h1, h2⟩ := ih _ h (by omega)
        rw [wt_cons]
        refine ⟨by omega, fun y hy => ?_⟩
        rcases List.mem_cons.1 hy with rfl | hy
        · omega
        · exact h2 y hy
theorem heavy_wt {rows : List (List UInt8)} (h : heavy rows = false) : wt rows ≤ 112000 := by have := heavyGo_wt rows 0 h (by omega); omega

theorem heavy_spec {w0 : World} {A : Option Addr} {rows : List (List UInt8)} {c : Nat} (hr : RdB w0 A rows []) :
    Calls Try.prog 21 #[.slice A rows.length c] w0 (Ret fun r w => r = .bool (heavy rows) ∧ St w0 [] [] w) := by
  have hS : Own [] w0 := St.start w0
  refine calls_enter (l := [.slice A rows.length c]) Try.func21 rfl Try.ntmps21 Try.results21 (Nat.le_of_ble_eq_true rfl) ?_
  refine W_seq ?_
  refine W_region ?_
  refine O_assign rfl rfl rfl ?_
  refine O_end ?_
  refine W_seq ?_
  refine W_region ?_
  refine O_assign rfl rfl rfl ?_
  refine O_end ?_
  refine W_seq ?_
  refine W_seq ?_
  refine W_region ?_
  refine O_assign rfl rfl rfl ?_
  refine O_end ?_
  refine W_block ?_
  refine W_loop (ι := Nat × Nat) (fun i => [(0, .slice A rows.length c), (3, .int .i64 (i.2 : Nat)), (4, .int .i64 (i.1 : Nat))]) (fun i w => i.1 ≤ rows.length ∧ i.1 ≤ i.2 ∧ i.2 ≤ 4000 ∧ heavy rows = heavyGo i.2 (rows.drop i.1) ∧ St w0 [] [] w) (fun i => rows.length - i.1) (0, 0) ⟨rfl, rfl, rfl, trivial⟩ ⟨Nat.zero_le _, Nat.le_refl _, Nat.zero_le _, rfl, hS⟩ ?_
  rintro ⟨i, m⟩ w ⟨hi, him, hm, hh, hS⟩
  dsimp only at hi him hm hh hS ⊢
  refine W_seq ?_
  refine W_seq ?_
  refine W_region ?_
  refine O_move rfl rfl rfl ?_
  refine O_move rfl rfl rfl ?_
  refine O_len rfl rfl rfl rfl ?_
  refine O_bin rfl rfl rfl rfl rfl ?_
  refine O_end ?_
  refine W_if rfl (fun c8 => ?_) (fun c8 => ?_)
  · skip
    refine W_skip ?_
    refine W_seq ?_
    refine W_block ?_
    refine W_seq ?_
    refine W_seq ?_
    refine W_region ?_
    refine O_move rfl rfl rfl ?_
    refine O_move rfl rfl rfl ?_
    have hlt : i < rows.length := by have := of_decide_eq_true c8; omega
    have hcons : rows.drop i = rows[i] :: rows.drop (i + 1) := List.drop_eq_getElem_cons hlt
    rw [hcons, heavyGo_cons] at hh
    obtain ⟨vs, Ai, ci, hv1, hv2, hv3, hv4, hv5⟩ := hr.at i hlt
    refine O_indexRd rfl rfl rfl rfl (hS.rd hv1 hv2) (by simpa using hv3) hlt (fun ad hA hc => ?_)
    refine O_load rfl rfl rfl rfl hc ?_
    refine O_len rfl rfl rfl rfl ?_
    refine O_bin rfl rfl rfl rfl rfl ?_
    refine O_end ?_
    refine W_if rfl (fun c16 => ?_) (fun c16 => ?_)
    · skip
      refine W_seq ?_
      refine W_region ?_
      refine O_assign rfl rfl rfl ?_
      refine O_end ?_
      refine W_ret ⟨_, rfl, ?_⟩
      rw [if_pos (by have := of_decide_eq_true c16; omega)] at hh
      rw [hh]
      exact ⟨rfl, hS⟩
    · skip
      refine W_skip ?_
      refine W_seq ?_
      refine W_region ?_
      have h16 : rows[i].length ≤ 4000 := by have := of_decide_eq_false c16; omega
      rw [if_neg (by omega)] at hh
      refine O_move rfl rfl rfl ?_
      refine O_bin rfl rfl rfl rfl (add_i64 m 3 (by omega)) ?_
      refine O_move rfl rfl rfl ?_
      refine O_move rfl rfl rfl ?_
      refine O_indexRd rfl rfl rfl rfl (hS.rd hv1 hv2) (by simpa using hv3) hlt (fun ad hA hc => ?_)
      refine O_load rfl rfl rfl rfl hc ?_
      refine O_len rfl rfl rfl rfl ?_
      refine O_bin rfl rfl rfl rfl (add_i64 (m + 3) rows[i].length (by omega)) ?_
      refine O_assign rfl rfl rfl ?_
      refine O_end ?_
      refine W_seq ?_
      refine W_region ?_
      refine O_move rfl rfl rfl ?_
      refine O_bin rfl rfl rfl rfl rfl ?_
      refine O_end ?_
      refine W_if rfl (fun c26 => ?_) (fun c26 => ?_)
      · skip
        refine W_seq ?_
        refine W_region ?_
        refine O_assign rfl rfl rfl ?_
        refine O_end ?_
        refine W_ret ⟨_, rfl, ?_⟩
        rw [if_pos (by have := of_decide_eq_true c26; omega)] at hh
        rw [hh]
        exact ⟨rfl, hS⟩
      · skip
        refine W_skip ?_
        refine W_region ?_
        refine O_move rfl rfl rfl ?_
        refine O_bin rfl rfl rfl rfl (i64_succ i (by omega)) ?_
        refine O_assign rfl rfl rfl ?_
        refine O_end ?_
        have h26 : m + 3 + rows[i].length ≤ 4000 := by have := of_decide_eq_false c26; omega
        rw [if_neg (by omega)] at hh
        exact ⟨(i + 1, m + 3 + rows[i].length), ⟨rfl, rfl, rfl, trivial⟩, ⟨hlt, by dsimp only; omega, h26, hh, hS⟩, by dsimp only; omega⟩
  · skip
    refine W_exit ?_
    refine W_seq ?_
    refine W_region ?_
    refine O_assign rfl rfl rfl ?_
    refine O_end ?_
    refine W_ret ⟨_, rfl, ?_⟩
    rw [List.drop_eq_nil_of_le (by have := of_decide_eq_false c8; omega)] at hh
    rw [hh]
    exact ⟨rfl, hS⟩

end Go.Proofs.Ytnbkeiekoncpnaa.R
