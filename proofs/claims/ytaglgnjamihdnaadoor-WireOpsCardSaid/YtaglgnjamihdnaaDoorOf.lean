/- How a Reader takes numbers and bytes. -/
import Derived.Test.YtaglgnjamihdnaaDoorOa
namespace Go.Proofs.YtaglgnjamihdnaaDoor.R
open Go Go.RowKit Go.Proofs
set_option linter.unusedVariables false
set_option linter.unusedSimpArgs false
set_option maxRecDepth 20000

/-- A Reader's block. -/
abbrev rcell (r : Nat) (v : Value) (b : Bool) : List Chunk := [(r, .cells #[v, .bool b] 73 (0, 0))]

theorem newReader_spec {w0 : World} {A : Option Addr} {bs : List UInt8} {c : Nat} (hr : Rd w0 A (bvs bs)) (hb : bs.length ≤ 1000000000) :
    Calls Tryd.prog 40 #[.slice A bs.length c] w0 (Ret fun x w => ∃ r v G, x = .pointer (some ⟨r, 0, none⟩) ∧ RView v false (some bs) G ∧ St w0 [] [rcell r v false, G] w) := by
  have hS : Own [] w0 := St.start w0
  refine calls_enter (l := [.slice A bs.length c]) Tryd.func40 rfl Tryd.ntmps40 Tryd.results40 (Nat.le_of_ble_eq_true rfl) ?_
  refine W_seq ?_
  refine W_region ?_
  refine O_assign rfl rfl rfl ?_
  refine O_end ?_
  refine W_seq ?_
  refine W_region ?_
  refine O_move rfl rfl rfl ?_
  refine O_call rfl rfl rfl (clone_spec hr hb) (fun r w ⟨G, hG, hk⟩ => ?_)
  have hS := hS.after0 hk
  have hV := View.ofRow hG
  obtain ⟨A', c', rfl, _⟩ := hG.form
  refine O_build (c := #[.slice A' bs.length c', .bool false]) rfl rfl rfl (fun _ => by kernel_rfl) ?_
  refine O_box hS rfl rfl rfl (fun b6 w hS => ?_)
  refine O_assign rfl rfl rfl ?_
  refine O_end ?_
  refine W_ret ⟨_, rfl, ?_⟩
  exact ⟨_, _, G, rfl, ⟨rfl, hV⟩, hS⟩

theorem bad_spec {w0 : World} {r : Nat} {v0 : Value} {b0 : Bool} {G : List Chunk} (hS : Own [rcell r v0 b0, G] w0) :
    Calls Tryd.prog 41 #[.pointer (some ⟨r, 0, none⟩)] w0 (Ret fun x w => x = .tuple #[] ∧ St w0 (idsOf [rcell r v0 b0, G]) [rcell r (.slice none 0 0) true, G] w) := by
  refine calls_enter (l := [.pointer (some ⟨r, 0, none⟩)]) Tryd.func41 rfl Tryd.ntmps41 Tryd.results41 (Nat.le_of_ble_eq_true rfl) ?_
  refine W_seq ?_
  refine W_region ?_
  refine O_move rfl rfl rfl ?_
  refine O_neq_ptr rfl rfl rfl ?_
  refine O_end ?_
  refine W_if_true rfl (rfl) ?_
  refine W_region ?_
  refine O_move rfl rfl rfl ?_
  refine O_move rfl rfl rfl ?_
  refine O_nilCheck rfl rfl rfl ?_
  refine O_fieldAddr rfl rfl rfl ?_
  refine O_store hS rfl rfl rfl rfl (Nat.le_of_ble_eq_true rfl) (fun w hS => ?_)
  refine O_nilCheck rfl rfl rfl ?_
  refine O_fieldAddr rfl rfl rfl ?_
  refine O_store hS rfl rfl rfl rfl (Nat.le_of_ble_eq_true rfl) (fun w hS => ?_)
  refine O_end ?_
  refine ⟨_, rfl, ?_⟩
  exact ⟨rfl, hS⟩

theorem good_spec {w0 : World} {r : Nat} {v0 : Value} {b0 : Bool} {G : List Chunk} (hS : Own [rcell r v0 b0, G] w0) :
    Calls Tryd.prog 43 #[.pointer (some ⟨r, 0, none⟩)] w0 (Ret fun x w => x = .bool (!b0) ∧ St w0 (idsOf [rcell r v0 b0, G]) [rcell r v0 b0, G] w) := by
  refine calls_enter (l := [.pointer (some ⟨r, 0, none⟩)]) Tryd.func43 rfl Tryd.ntmps43 Tryd.results43 (Nat.le_of_ble_eq_true rfl) ?_
  refine W_seq ?_
  refine W_region ?_
  refine O_assign rfl rfl rfl ?_
  refine O_end ?_
  refine W_seq ?_
  refine W_region ?_
  refine O_move rfl rfl rfl ?_
  refine O_neq_ptr rfl rfl rfl ?_
  refine O_move rfl rfl rfl ?_
  refine O_know 5 (.bool true) rfl (congrArg Value.bool (rfl)) ?_
  refine O_move rfl rfl rfl ?_
  refine O_nilCheck rfl rfl rfl ?_
  refine O_fieldAddr rfl rfl rfl ?_
  first | refine O_load rfl rfl rfl rfl (hS.cell rfl) ?_ | refine O_load rfl rfl rfl rfl (by assumption) ?_
  refine O_not rfl rfl rfl ?_
  first | refine O_pick_true rfl rfl rfl rfl ?_ | refine O_pick_false rfl rfl rfl rfl ?_
  refine O_assign rfl rfl rfl ?_
  refine O_end ?_
  refine W_ret ⟨_, rfl, ?_⟩
  exact ⟨rfl, hS⟩

theorem whole_spec {w0 : World} {r : Nat} {v0 : Value} {b0 : Bool} {G : List Chunk} {s : RSt} (hS : Own [rcell r v0 b0, G] w0) (hV : RView v0 b0 s G) :
    Calls Tryd.prog 25 #[.pointer (some ⟨r, 0, none⟩)] w0 (Ret fun x w => x = .bool (decide (s = some [])) ∧ St w0 (idsOf [rcell r v0 b0, G]) [rcell r v0 b0, G] w) := by
  obtain ⟨A, c, rfl, hV1⟩ := hV.2
  have hb := hV.1
  refine calls_enter (l := [.pointer (some ⟨r, 0, none⟩)]) Tryd.func25 rfl Tryd.ntmps25 Tryd.results25 (Nat.le_of_ble_eq_true rfl) ?_
  refine W_seq ?_
  refine W_region ?_
  refine O_assign rfl rfl rfl ?_
  refine O_end ?_
  refine W_seq ?_
  refine W_region ?_
  refine O_move rfl rfl rfl ?_
  refine O_call rfl rfl rfl (good_spec hS.own2) (fun x w ⟨hx, hk⟩ => ?_)
  subst hx
  have hS := hS.after2 hk
  refine O_move rfl rfl rfl ?_
  refine O_part 5 rfl (fun c5 => ?_) (fun c5 => ?_)
  · skip
    refine O_move rfl rfl rfl ?_
    refine O_nilCheck rfl rfl rfl ?_
    refine O_fieldAddr rfl rfl rfl ?_
    first | refine O_load rfl rfl rfl rfl (hS.cell rfl) ?_ | refine O_load rfl rfl rfl rfl (by assumption) ?_
    refine O_len rfl rfl rfl rfl ?_
    refine O_bin rfl rfl rfl rfl rfl ?_
    first | refine O_pick_true rfl rfl rfl rfl ?_ | refine O_pick_false rfl rfl rfl rfl ?_
    refine O_assign rfl rfl rfl ?_
    refine O_end ?_
    refine W_ret ⟨_, rfl, ?_⟩
    refine ⟨congrArg Value.bool ?_, hS⟩
    cases s with
    | none => simp [hb] at c5
    | some l =>
      cases l <;> simp [RSt.left]
      omega
  · skip
    refine O_skip rfl rfl ?_
    refine O_skip rfl rfl ?_
    refine O_skip rfl rfl ?_
    refine O_skip rfl rfl ?_
    refine O_skip rfl rfl ?_
    refine O_skip rfl rfl ?_
    first | refine O_pick_true rfl rfl rfl rfl ?_ | refine O_pick_false rfl rfl rfl rfl ?_
    refine O_assign rfl rfl rfl ?_
    refine O_end ?_
    refine W_ret ⟨_, rfl, ?_⟩
    refine ⟨congrArg Value.bool ?_, hS⟩
    cases s with
    | none => simp
    | some l => simp [hb] at c5

theorem rraw_spec {w0 : World} {r : Nat} {v0 : Value} {b0 : Bool} {G : List Chunk} {s : RSt} {n : Int} (hS : Own [rcell r v0 b0, G] w0) (hV : RView v0 b0 s G) (hl : s.left.length ≤ 1000000000) :
    Calls Tryd.prog 42 #[.pointer (some ⟨r, 0, none⟩), .int .i64 n] w0 (Ret fun x w => ∃ v b G', BRow x (rraw s n).1 G' ∧ RView v b (rraw s n).2 G ∧ St w0 (idsOf [rcell r v0 b0, G]) [G', rcell r v b, G] w) := by
  obtain ⟨A, c, rfl, hV1⟩ := hV.2
  have hb := hV.1
  refine calls_enter (l := [.pointer (some ⟨r, 0, none⟩), .int .i64 n]) Tryd.func42 rfl Tryd.ntmps42 Tryd.results42 (Nat.le_of_ble_eq_true rfl) ?_
  refine W_seq ?_
  refine W_region ?_
  refine O_assign rfl rfl rfl ?_
  refine O_end ?_
  refine W_seq ?_
  refine W_seq ?_
  refine W_region ?_
  refine O_move rfl rfl rfl ?_
  refine O_eql_ptr rfl rfl rfl ?_
  refine O_move rfl rfl rfl ?_
  refine O_know 8 (.bool false) rfl (congrArg Value.bool (rfl)) ?_
  refine O_move rfl rfl rfl ?_
  refine O_bin rfl rfl rfl rfl rfl ?_
  first | refine O_pick_true rfl rfl rfl rfl ?_ | refine O_pick_false rfl rfl rfl rfl ?_
  refine O_move rfl rfl rfl ?_
  refine O_part 12 rfl (fun c12 => ?_) (fun c12 => ?_)
  · skip
    refine O_skip rfl rfl ?_
    refine O_skip rfl rfl ?_
    refine O_skip rfl rfl ?_
    refine O_skip rfl rfl ?_
    refine O_skip rfl rfl ?_
    refine O_skip rfl rfl ?_
    refine O_skip rfl rfl ?_
    first | refine O_pick_true rfl rfl rfl rfl ?_ | refine O_pick_false rfl rfl rfl rfl ?_
    refine O_end ?_
    refine W_if_true rfl (rfl) ?_
    refine W_seq ?_
    refine W_region ?_
    refine O_move rfl rfl rfl ?_
    refine O_call rfl rfl rfl (bad_spec hS.own2) (fun x w ⟨hx, hk⟩ => ?_)
    have hS := hS.after2 hk
    refine O_end ?_
    refine W_seq ?_
    refine W_region ?_
    refine O_assign rfl rfl rfl ?_
    refine O_end ?_
    refine W_ret ⟨_, rfl, ?_⟩
    have hS := hS.empty
    have he : rraw s n = ([], none) := by
      cases s with
      | none => rfl
      | some l =>
        unfold rraw
        dsimp only
        rw [if_pos]
        first
          | exact .inl (of_decide_eq_true c12)
          | exact .inr (of_decide_eq_true c20)
    rw [he]
    exact ⟨_, _, [], Row.nil _ _, RView.bad G, hS⟩
  · skip
    refine O_move rfl rfl rfl ?_
    refine O_move rfl rfl rfl ?_
    refine O_nilCheck rfl rfl rfl ?_
    refine O_fieldAddr rfl rfl rfl ?_
    first | refine O_load rfl rfl rfl rfl (hS.cell rfl) ?_ | refine O_load rfl rfl rfl rfl (by assumption) ?_
    refine O_len rfl rfl rfl rfl ?_
    refine O_bin rfl rfl rfl rfl rfl ?_
    first | refine O_pick_true rfl rfl rfl rfl ?_ | refine O_pick_false rfl rfl rfl rfl ?_
    refine O_end ?_
    refine W_if rfl (fun c20 => ?_) (fun c20 => ?_)
    · skip
      refine W_seq ?_
      refine W_region ?_
      refine O_move rfl rfl rfl ?_
      refine O_call rfl rfl rfl (bad_spec hS.own2) (fun x w ⟨hx, hk⟩ => ?_)
      have hS := hS.after2 hk
      refine O_end ?_
      refine W_seq ?_
      refine W_region ?_
      refine O_assign rfl rfl rfl ?_
      refine O_end ?_
      refine W_ret ⟨_, rfl, ?_⟩
      have hS := hS.empty
      have he : rraw s n = ([], none) := by
        cases s with
        | none => rfl
        | some l =>
          unfold rraw
          dsimp only
          rw [if_pos]
          first
            | exact .inl (of_decide_eq_true c12)
            | exact .inr (of_decide_eq_true c20)
      rw [he]
      exact ⟨_, _, [], Row.nil _ _, RView.bad G, hS⟩
    · skip
      refine W_skip ?_
      refine W_seq ?_
      refine W_region ?_
      have hn0 : 0 ≤ n := by have := of_decide_eq_false c12; omega
      have hn1 : n ≤ s.left.length := by have := of_decide_eq_false c20; omega
      refine O_move rfl rfl rfl ?_
      refine O_nilCheck rfl rfl rfl ?_
      refine O_fieldAddr rfl rfl rfl ?_
      first | refine O_load rfl rfl rfl rfl (hS.cell rfl) ?_ | refine O_load rfl rfl rfl rfl (by assumption) ?_
      refine O_move rfl rfl rfl ?_
      obtain ⟨hc1, hc2, hrd⟩ := hV1
      obtain ⟨k, rfl⟩ : ∃ k : Nat, n = k := ⟨n.toNat, by omega⟩
      have hk0 : k ≤ s.left.length := by omega
      refine O_slice_to rfl rfl rfl rfl (by omega) ?_
      obtain ⟨hr1, hr2⟩ := hrd _ _ _ _ hS.f1
      have hr3 : Rd w0 A (bvs (s.left.take k)) := by rw [bvs_take]; exact hr1.take k
      have hlen : (s.left.take k).length = k := by rw [List.length_take]; omega
      have hcl := clone_spec (c := c) hr3 (by omega)
      rw [hlen] at hcl
      refine O_call rfl rfl rfl hcl (fun x w ⟨G', hG, hk⟩ => ?_)
      have hS := (hS.after0 hk).f1
      refine O_assign rfl rfl rfl ?_
      refine O_end ?_
      refine W_seq ?_
      refine W_region ?_
      refine O_move rfl rfl rfl ?_
      refine O_move rfl rfl rfl ?_
      refine O_nilCheck rfl rfl rfl ?_
      refine O_fieldAddr rfl rfl rfl ?_
      first | refine O_load rfl rfl rfl rfl (hS.cell rfl) ?_ | refine O_load rfl rfl rfl rfl (by assumption) ?_
      refine O_move rfl rfl rfl ?_
      refine O_slice_from rfl rfl rfl rfl (by omega) ?_
      refine O_nilCheck rfl rfl rfl ?_
      refine O_fieldAddr rfl rfl rfl ?_
      refine O_store hS rfl rfl rfl rfl (Nat.le_of_ble_eq_true rfl) (fun w hS => ?_)
      refine O_end ?_
      refine W_seq ?_
      refine W_region ?_
      refine O_move rfl rfl rfl ?_
      refine O_assign rfl rfl rfl ?_
      refine O_end ?_
      refine W_ret ⟨_, rfl, ?_⟩
      refine ⟨_, _, G', ?_, ?_, hS.f1⟩
      · have he : (rraw s k).1 = s.left.take k := by
          cases s with
          | none => rw [show RSt.left none = [] from rfl]; simp [rraw]
          | some l => unfold rraw; dsimp only; rw [if_neg (by simp only [RSt.left, Option.getD_some] at hn1; omega)]; simp [RSt.left]
        rw [he]
        exact hG
      · have he : (rraw s k).2 = s.map (·.drop k) := by
          cases s with
          | none => rfl
          | some l => unfold rraw; dsimp only; rw [if_neg (by simp only [RSt.left, Option.getD_some] at hn1; omega)]; simp
        have he2 : (rraw s k).2.left = s.left.drop k := by
          rw [he]; cases s <;> simp [RSt.left]
        refine ⟨by rw [hb, he]; cases s <;> rfl, ?_⟩
        rw [he2]
        exact hV.2.drop hk0

theorem rnum_spec {w0 : World} {r : Nat} {v0 : Value} {b0 : Bool} {G : List Chunk} {s : RSt} (hS : Own [rcell r v0 b0, G] w0) (hV : RView v0 b0 s G) (hl : s.left.length ≤ 1000000000) :
    Calls Tryd.prog 23 #[.pointer (some ⟨r, 0, none⟩)] w0 (Ret fun x w => x = .int .i64 ((rnum s).1 : Nat) ∧ ∃ v b, RView v b (rnum s).2 G ∧ St w0 (idsOf [rcell r v0 b0, G]) [rcell r v b, G] w) := by
  obtain ⟨A, c, rfl, hV1⟩ := hV.2
  have hb := hV.1
  refine calls_enter (l := [.pointer (some ⟨r, 0, none⟩)]) Tryd.func23 rfl Tryd.ntmps23 Tryd.results23 (Nat.le_of_ble_eq_true rfl) ?_
  refine W_seq ?_
  refine W_region ?_
  refine O_assign rfl rfl rfl ?_
  refine O_end ?_
  refine W_seq ?_
  refine W_seq ?_
  refine W_region ?_
  refine O_move rfl rfl rfl ?_
  refine O_eql_ptr rfl rfl rfl ?_
  refine O_end ?_
  refine W_if_false rfl (rfl) ?_
  refine W_skip ?_
  refine W_seq ?_
  refine W_region ?_
  refine O_assign rfl rfl rfl ?_
  refine O_end ?_
  refine W_seq ?_
  refine W_seq ?_
  refine W_region ?_
  refine O_move rfl rfl rfl ?_
  refine O_nilCheck rfl rfl rfl ?_
  refine O_fieldAddr rfl rfl rfl ?_
  first | refine O_load rfl rfl rfl rfl (hS.cell rfl) ?_ | refine O_load rfl rfl rfl rfl (by assumption) ?_
  refine O_len rfl rfl rfl rfl ?_
  refine O_move rfl rfl rfl ?_
  refine O_end ?_
  refine W_block ?_
  refine W_loop (ι := Nat × Nat) (fun i => [(0, .pointer (some ⟨r, 0, none⟩)), (11, .slice A s.left.length c), (12, .int .i64 (s.left.length : Nat)), (13, .int .i64 (i.1 : Nat)), (3, .int .u64 (i.2 : Nat))])
      (fun i w => i.1 ≤ s.left.length ∧ i.1 ≤ 9 ∧ i.2 < 128 ^ i.1 ∧ dec s.left = decGo i.1 i.2 (s.left.drop i.1) ∧ St w0 (idsOf [rcell r (.slice A s.left.length c) b0, G]) [rcell r (.slice A s.left.length c) b0, G] w) (fun i => s.left.length - i.1) (0, 0)
      ⟨rfl, rfl, rfl, rfl, rfl, trivial⟩ ⟨Nat.zero_le _, Nat.zero_le _, by simp, rfl, hS⟩ ?_
  rintro ⟨i, u⟩ w ⟨hi, hi9, hu, hdec, hS⟩
  dsimp only at hi hi9 hu hdec hS ⊢
  refine W_seq ?_
  refine W_region ?_
  refine O_bin rfl rfl rfl rfl rfl ?_
  refine O_end ?_
  refine W_seq ?_
  refine W_if rfl (fun c14 => ?_) (fun c14 => ?_)
  · skip
    refine W_skip ?_
    refine W_seq ?_
    refine W_block ?_
    refine W_seq ?_
    refine W_region ?_
    refine O_move rfl rfl rfl ?_
    have hlt : i < s.left.length := by have := of_decide_eq_true c14; omega
    obtain ⟨hc1, hc2, hrd⟩ := hV1
    obtain ⟨hr1, hr2⟩ := hrd _ _ _ _ hS.f1
    refine O_indexRd rfl rfl rfl rfl hr1 (v := bv s.left[i]) (bvs_at (by simp [hlt])) hlt (fun ad hA hc => ?_)
    refine O_load rfl rfl rfl rfl hc ?_
    refine O_assign rfl rfl rfl ?_
    refine O_assign rfl rfl rfl ?_
    refine O_end ?_
    refine W_seq ?_
    refine W_seq ?_
    refine W_region ?_
    refine O_move rfl rfl rfl ?_
    refine O_bin rfl rfl rfl rfl rfl ?_
    refine O_move rfl rfl rfl ?_
    refine O_part 20 rfl (fun c20 => ?_) (fun c20 => ?_)
    · skip
      refine O_skip rfl rfl ?_
      refine O_skip rfl rfl ?_
      refine O_skip rfl rfl ?_
      refine O_skip rfl rfl ?_
      refine O_skip rfl rfl ?_
      refine O_skip rfl rfl ?_
      first | refine O_pick_true rfl rfl rfl rfl ?_ | refine O_pick_false rfl rfl rfl rfl ?_
      refine O_end ?_
      refine W_if_true rfl (rfl) ?_
      refine W_exit ?_
      refine W_seq ?_
      refine W_region ?_
      have hcons : s.left.drop i = s.left[i] :: s.left.drop (i + 1) := List.drop_eq_getElem_cons hlt
      rw [hcons, decGo_cons] at hdec
      have hnone : dec s.left = none := by rw [hdec, if_pos (.inl (by have := of_decide_eq_true c20; omega))]
      refine O_move rfl rfl rfl ?_
      refine O_call rfl rfl rfl (bad_spec hS.own2) (fun x w ⟨hx, hk⟩ => ?_)
      have hS := hS.after2 hk
      refine O_end ?_
      refine W_seq ?_
      refine W_region ?_
      refine O_assign rfl rfl rfl ?_
      refine O_end ?_
      refine W_ret ⟨_, rfl, ?_⟩
      rw [rnum_none hnone]
      exact ⟨rfl, _, _, RView.bad G, hS⟩
    · skip
      refine O_move rfl rfl rfl ?_
      refine O_bin rfl rfl rfl rfl rfl ?_
      refine O_move rfl rfl rfl ?_
      refine O_part 23 rfl (fun c23 => ?_) (fun c23 => ?_)
      · skip
        refine O_move rfl rfl rfl ?_
        refine O_bin rfl rfl rfl rfl rfl ?_
        first | refine O_pick_true rfl rfl rfl rfl ?_ | refine O_pick_false rfl rfl rfl rfl ?_
        first | refine O_pick_true rfl rfl rfl rfl ?_ | refine O_pick_false rfl rfl rfl rfl ?_
        refine O_end ?_
        refine W_if rfl (fun c27 => ?_) (fun c27 => ?_)
        · skip
          refine W_exit ?_
          refine W_seq ?_
          refine W_region ?_
          have hcons : s.left.drop i = s.left[i] :: s.left.drop (i + 1) := List.drop_eq_getElem_cons hlt
          rw [hcons, decGo_cons] at hdec
          have hnone : dec s.left = none := by
            rw [hdec, if_pos (.inr ⟨by have := of_decide_eq_true c23; omega, byte_eq (x := s.left[i]) (y := 0) (by simpa using c27)⟩)]
          refine O_move rfl rfl rfl ?_
          refine O_call rfl rfl rfl (bad_spec hS.own2) (fun x w ⟨hx, hk⟩ => ?_)
          have hS := hS.after2 hk
          refine O_end ?_
          refine W_seq ?_
          refine W_region ?_
          refine O_assign rfl rfl rfl ?_
          refine O_end ?_
          refine W_ret ⟨_, rfl, ?_⟩
          rw [rnum_none hnone]
          exact ⟨rfl, _, _, RView.bad G, hS⟩
        · skip
          refine W_skip ?_
          refine W_seq ?_
          refine W_region ?_
          have hi8 : i ≤ 8 := by have := of_decide_eq_false c20; omega
          refine O_move rfl rfl rfl ?_
          refine O_move rfl rfl rfl ?_
          refine O_bin rfl rfl rfl rfl (ev_and127b _) ?_
          refine O_conv rfl rfl rfl (conv_u64 _ (by omega)) ?_
          refine O_move rfl rfl rfl ?_
          refine O_bin rfl rfl rfl rfl (mul7 i (by omega)) ?_
          refine O_shift rfl rfl rfl rfl (by omega) (shl7 _ i (Nat.mod_lt _ (by decide)) (by omega)) ?_
          refine O_bin rfl rfl rfl rfl (or_step u _ i hu (Nat.mod_lt _ (by decide)) (by omega)) ?_
          refine O_assign rfl rfl rfl ?_
          refine O_end ?_
          refine W_seq ?_
          refine W_region ?_
          refine O_move rfl rfl rfl ?_
          refine O_bin rfl rfl rfl rfl rfl ?_
          refine O_end ?_
          refine W_if rfl (fun c37 => ?_) (fun c37 => ?_)
          · skip
            refine W_seq ?_
            refine W_seq ?_
            refine W_region ?_
            refine O_move rfl rfl rfl ?_
            refine O_bin rfl rfl rfl rfl rfl ?_
            refine O_end ?_
            refine W_if rfl (fun c39 => ?_) (fun c39 => ?_)
            · skip
              refine W_exit ?_
              refine W_seq ?_
              refine W_region ?_
              have hcons : s.left.drop i = s.left[i] :: s.left.drop (i + 1) := List.drop_eq_getElem_cons hlt
              rw [hcons, decGo_cons] at hdec
              have hnone : dec s.left = none := by
                rw [hdec]
                split
                · rfl
                · rw [if_pos (by have := of_decide_eq_true c37; omega), if_pos (by have := of_decide_eq_true c39; omega)]
              refine O_move rfl rfl rfl ?_
              refine O_call rfl rfl rfl (bad_spec hS.own2) (fun x w ⟨hx, hk⟩ => ?_)
              have hS := hS.after2 hk
              refine O_end ?_
              refine W_seq ?_
              refine W_region ?_
              refine O_assign rfl rfl rfl ?_
              refine O_end ?_
              refine W_ret ⟨_, rfl, ?_⟩
              rw [rnum_none hnone]
              exact ⟨rfl, _, _, RView.bad G, hS⟩
            · skip
              refine W_skip ?_
              refine W_seq ?_
              refine W_region ?_
              have hle := of_decide_eq_false c39
              refine O_move rfl rfl rfl ?_
              refine O_move rfl rfl rfl ?_
              refine O_nilCheck rfl rfl rfl ?_
              refine O_fieldAddr rfl rfl rfl ?_
              first | refine O_load rfl rfl rfl rfl (hS.cell rfl) ?_ | refine O_load rfl rfl rfl rfl (by assumption) ?_
              refine O_move rfl rfl rfl ?_
              refine O_bin rfl rfl rfl rfl (i64_succ i (by omega)) ?_
              refine O_slice_from rfl rfl rfl rfl (by omega) ?_
              refine O_nilCheck rfl rfl rfl ?_
              refine O_fieldAddr rfl rfl rfl ?_
              refine O_store hS rfl rfl rfl rfl (Nat.le_of_ble_eq_true rfl) (fun w hS => ?_)
              refine O_end ?_
              refine W_seq ?_
              refine W_region ?_
              refine O_move rfl rfl rfl ?_
              refine O_conv rfl rfl rfl (conv_i64 _ (by omega)) ?_
              refine O_assign rfl rfl rfl ?_
              refine O_end ?_
              refine W_ret ⟨_, rfl, ?_⟩
              have hd : dec s.left = some (u + s.left[i].toNat % 128 * 128 ^ i, s.left.drop (i + 1)) := by
                rw [hdec, List.drop_eq_getElem_cons hlt, decGo_cons, if_neg, if_pos (by have := of_decide_eq_true c37; omega), if_neg (by omega)]
                rintro (h | ⟨h1, h2⟩)
                · omega
                · first
                    | (have := of_decide_eq_false c23; omega)
                    | (rw [h2] at c27; exact absurd c27 (by decide))
              rw [rnum_some hd]
              refine ⟨rfl, _, _, ⟨?_, hV.2.drop hlt⟩, hS⟩
              rw [hb]
              cases s with
              | none => simp [RSt.left] at hlt
              | some l => rfl
          · skip
            refine W_skip ?_
            refine W_region ?_
            refine O_bin rfl rfl rfl rfl (i64_succ i (by omega)) ?_
            refine O_move rfl rfl rfl ?_
            refine O_end ?_
            refine ⟨(i + 1, u + s.left[i].toNat % 128 * 128 ^ i), ⟨rfl, rfl, rfl, rfl, rfl, trivial⟩, ⟨hlt, by dsimp only; omega, ?_, ?_, hS⟩, by dsimp only; omega⟩
            · dsimp only
              rw [Nat.pow_succ]
              have h1 : s.left[i].toNat % 128 * 128 ^ i ≤ 127 * 128 ^ i := Nat.mul_le_mul_right _ (by omega)
              omega
            · rw [List.drop_eq_getElem_cons hlt, decGo_cons, if_neg, if_neg (by have := of_decide_eq_false c37; omega)] at hdec
              · exact hdec
              · rintro (h | ⟨_, h⟩)
                · omega
                · rw [h] at c27; exact absurd c27 (by decide)
      · skip
        refine O_skip rfl rfl ?_
        refine O_skip rfl rfl ?_
        first | refine O_pick_true rfl rfl rfl rfl ?_ | refine O_pick_false rfl rfl rfl rfl ?_
        first | refine O_pick_true rfl rfl rfl rfl ?_ | refine O_pick_false rfl rfl rfl rfl ?_
        refine O_end ?_
        refine W_if_false rfl (rfl) ?_
        refine W_skip ?_
        refine W_seq ?_
        refine W_region ?_
        have hi8 : i ≤ 8 := by have := of_decide_eq_false c20; omega
        refine O_move rfl rfl rfl ?_
        refine O_move rfl rfl rfl ?_
        refine O_bin rfl rfl rfl rfl (ev_and127b _) ?_
        refine O_conv rfl rfl rfl (conv_u64 _ (by omega)) ?_
        refine O_move rfl rfl rfl ?_
        refine O_bin rfl rfl rfl rfl (mul7 i (by omega)) ?_
        refine O_shift rfl rfl rfl rfl (by omega) (shl7 _ i (Nat.mod_lt _ (by decide)) (by omega)) ?_
        refine O_bin rfl rfl rfl rfl (or_step u _ i hu (Nat.mod_lt _ (by decide)) (by omega)) ?_
        refine O_assign rfl rfl rfl ?_
        refine O_end ?_
        refine W_seq ?_
        refine W_region ?_
        refine O_move rfl rfl rfl ?_
        refine O_bin rfl rfl rfl rfl rfl ?_
        refine O_end ?_
        refine W_if rfl (fun c37 => ?_) (fun c37 => ?_)
        · skip
          refine W_seq ?_
          refine W_seq ?_
          refine W_region ?_
          refine O_move rfl rfl rfl ?_
          refine O_bin rfl rfl rfl rfl rfl ?_
          refine O_end ?_
          refine W_if rfl (fun c39 => ?_) (fun c39 => ?_)
          · skip
            refine W_exit ?_
            refine W_seq ?_
            refine W_region ?_
            have hcons : s.left.drop i = s.left[i] :: s.left.drop (i + 1) := List.drop_eq_getElem_cons hlt
            rw [hcons, decGo_cons] at hdec
            have hnone : dec s.left = none := by
              rw [hdec]
              split
              · rfl
              · rw [if_pos (by have := of_decide_eq_true c37; omega), if_pos (by have := of_decide_eq_true c39; omega)]
            refine O_move rfl rfl rfl ?_
            refine O_call rfl rfl rfl (bad_spec hS.own2) (fun x w ⟨hx, hk⟩ => ?_)
            have hS := hS.after2 hk
            refine O_end ?_
            refine W_seq ?_
            refine W_region ?_
            refine O_assign rfl rfl rfl ?_
            refine O_end ?_
            refine W_ret ⟨_, rfl, ?_⟩
            rw [rnum_none hnone]
            exact ⟨rfl, _, _, RView.bad G, hS⟩
          · skip
            refine W_skip ?_
            refine W_seq ?_
            refine W_region ?_
            have hle := of_decide_eq_false c39
            refine O_move rfl rfl rfl ?_
            refine O_move rfl rfl rfl ?_
            refine O_nilCheck rfl rfl rfl ?_
            refine O_fieldAddr rfl rfl rfl ?_
            first | refine O_load rfl rfl rfl rfl (hS.cell rfl) ?_ | refine O_load rfl rfl rfl rfl (by assumption) ?_
            refine O_move rfl rfl rfl ?_
            refine O_bin rfl rfl rfl rfl (i64_succ i (by omega)) ?_
            refine O_slice_from rfl rfl rfl rfl (by omega) ?_
            refine O_nilCheck rfl rfl rfl ?_
            refine O_fieldAddr rfl rfl rfl ?_
            refine O_store hS rfl rfl rfl rfl (Nat.le_of_ble_eq_true rfl) (fun w hS => ?_)
            refine O_end ?_
            refine W_seq ?_
            refine W_region ?_
            refine O_move rfl rfl rfl ?_
            refine O_conv rfl rfl rfl (conv_i64 _ (by omega)) ?_
            refine O_assign rfl rfl rfl ?_
            refine O_end ?_
            refine W_ret ⟨_, rfl, ?_⟩
            have hd : dec s.left = some (u + s.left[i].toNat % 128 * 128 ^ i, s.left.drop (i + 1)) := by
              rw [hdec, List.drop_eq_getElem_cons hlt, decGo_cons, if_neg, if_pos (by have := of_decide_eq_true c37; omega), if_neg (by omega)]
              rintro (h | ⟨h1, h2⟩)
              · omega
              · first
                  | (have := of_decide_eq_false c23; omega)
                  | (rw [h2] at c27; exact absurd c27 (by decide))
            rw [rnum_some hd]
            refine ⟨rfl, _, _, ⟨?_, hV.2.drop hlt⟩, hS⟩
            rw [hb]
            cases s with
            | none => simp [RSt.left] at hlt
            | some l => rfl
        · skip
          refine W_skip ?_
          refine W_region ?_
          refine O_bin rfl rfl rfl rfl (i64_succ i (by omega)) ?_
          refine O_move rfl rfl rfl ?_
          refine O_end ?_
          refine ⟨(i + 1, u + s.left[i].toNat % 128 * 128 ^ i), ⟨rfl, rfl, rfl, rfl, rfl, trivial⟩, ⟨hlt, by dsimp only; omega, ?_, ?_, hS⟩, by dsimp only; omega⟩
          · dsimp only
            rw [Nat.pow_succ]
            have h1 : s.left[i].toNat % 128 * 128 ^ i ≤ 127 * 128 ^ i := Nat.mul_le_mul_right _ (by omega)
            omega
          · rw [List.drop_eq_getElem_cons hlt, decGo_cons, if_neg, if_neg (by have := of_decide_eq_false c37; omega)] at hdec
            · exact hdec
            · rintro (h | ⟨h, _⟩)
              · omega
              · have := of_decide_eq_false c23; omega
  · skip
    refine W_exit ?_
    refine W_seq ?_
    refine W_region ?_
    have hnone : dec s.left = none := by
      rw [hdec, List.drop_eq_nil_of_le (by have := of_decide_eq_false c14; omega)]; rfl
    refine O_move rfl rfl rfl ?_
    refine O_call rfl rfl rfl (bad_spec hS.own2) (fun x w ⟨hx, hk⟩ => ?_)
    have hS := hS.after2 hk
    refine O_end ?_
    refine W_seq ?_
    refine W_region ?_
    refine O_assign rfl rfl rfl ?_
    refine O_end ?_
    refine W_ret ⟨_, rfl, ?_⟩
    rw [rnum_none hnone]
    exact ⟨rfl, _, _, RView.bad G, hS⟩

end Go.Proofs.YtaglgnjamihdnaaDoor.R
