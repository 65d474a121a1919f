/- How the document's own Reader takes numbers and bytes; numbers into places. -/
import Derived.Test.YtaglgnjamihdnaaDoorOg
namespace Go.Proofs.YtaglgnjamihdnaaDoor.R
open Go Go.RowKit Go.Proofs
set_option linter.unusedVariables false
set_option linter.unusedSimpArgs false
set_option maxRecDepth 20000

/-- The block of the document's own Reader. -/
abbrev qcell (r : Nat) (v : Value) (b : Bool) : List Chunk := [(r, .cells #[v, .bool b] 61 (0, 0))]
/-- A place that holds a number. -/
abbrev pcell (p : Nat) (x : Int) : List Chunk := [(p, .cells #[.int .i64 x] 3 (0, 0))]
theorem shl7' (x i : Nat) (hx : x * 128 ^ i < 18446744073709551616) (hi : i ≤ 9) : evalShift .shl .u64 (x : Int) ((7 * i : Nat) : Int) = some (.int .u64 ((x * 128 ^ i : Nat) : Int)) := by
  show some (Value.int .u64 (IntKind.u64.wrap ((x : Int) * 2 ^ (min ((7 * i : Nat) : Int).toNat IntKind.u64.bits)))) = _
  have h1 : min ((7 * i : Nat) : Int).toNat IntKind.u64.bits = 7 * i := by
    rw [Int.toNat_natCast, show IntKind.u64.bits = 64 from rfl]; omega
  have h2 : (x : Int) * 2 ^ (7 * i) = ((x * 128 ^ i : Nat) : Int) := by rw [← two_seven]; push_cast; rfl
  rw [h1, h2, conv_u64 _ hx]
theorem or_step' (u x i : Nat) (hu : u < 128 ^ i) (hx : u + x * 128 ^ i < 18446744073709551616) : evalBin .or .u64 (u : Int) ((x * 128 ^ i : Nat) : Int) = some (.int .u64 ((u + x * 128 ^ i : Nat) : Int)) := by
  show some (Value.int .u64 (IntKind.u64.wrap ((BitVec.ofInt IntKind.u64.bits (u : Int) ||| BitVec.ofInt IntKind.u64.bits ((x * 128 ^ i : Nat) : Int)).toNat : Int))) = _
  have h1 : BitVec.ofInt IntKind.u64.bits (u : Int) = BitVec.ofNat 64 u := BitVec.ofInt_natCast ..
  have h2 : BitVec.ofInt IntKind.u64.bits ((x * 128 ^ i : Nat) : Int) = BitVec.ofNat 64 (x * 128 ^ i) := BitVec.ofInt_natCast ..
  have h5 : (BitVec.ofNat 64 u ||| BitVec.ofNat 64 (x * 128 ^ i)).toNat = u + x * 128 ^ i := by
    rw [BitVec.toNat_or, BitVec.toNat_ofNat, BitVec.toNat_ofNat, Nat.mod_eq_of_lt (by omega), Nat.mod_eq_of_lt (by omega), ← two_seven]
    have := Nat.shiftLeft_add_eq_or_of_lt (show u < 2 ^ (7 * i) by rw [two_seven]; exact hu) x
    rw [Nat.shiftLeft_eq] at this
    rw [Nat.or_comm, ← this, Nat.add_comm]
  rw [h1, h2]
  show some (Value.int .u64 (IntKind.u64.wrap ((BitVec.ofNat 64 u ||| BitVec.ofNat 64 (x * 128 ^ i)).toNat : Int))) = _
  rw [h5, conv_u64 _ hx]
/-- What is laid at place i stays below 2^64 where the ninth is at most 1. -/
theorem place_small (i x : Nat) (hi : i ≤ 9) (hx : x < 128) (h9 : i = 9 → x ≤ 1) : x * 128 ^ i ≤ 9223372036854775808 := by
  rcases Nat.lt_or_ge i 9 with h | h
  · have h3 := pow_le (i := i) (by omega)
    have h4 : x * 128 ^ i ≤ 127 * 72057594037927936 := Nat.mul_le_mul (by omega) h3
    omega
  · have : i = 9 := by omega
    subst this
    have h1 := h9 rfl
    have h4 : x * 128 ^ 9 ≤ 1 * 128 ^ 9 := Nat.mul_le_mul_right _ h1
    rw [show (128 : Nat) ^ 9 = 9223372036854775808 from by decide] at h4 ⊢
    omega
theorem rraw_left (s : RSt) (n : Int) (hl : s.left.length ≤ 1000000000) : (rraw s n).2.left.length ≤ 1000000000 ∧ (rraw s n).1.length ≤ 1000000000 := by
  cases s with
  | none => exact ⟨by simp [rraw, RSt.left], by simp [rraw]⟩
  | some l =>
    have hl : l.length ≤ 1000000000 := hl
    unfold rraw
    dsimp only
    split
    · exact ⟨by simp [RSt.left], by simp⟩
    · refine ⟨?_, ?_⟩
      · simp only [RSt.left, Option.getD_some, List.length_drop]; omega
      · simp only [List.length_take]; omega
theorem rbytes_left (s : RSt) (hl : s.left.length ≤ 1000000000) : (rbytes s).2.left.length ≤ 1000000000 ∧ (rbytes s).1.length ≤ 1000000000 := rraw_left _ _ (rnum_left s hl)
theorem rraw_one (s : RSt) (i : Nat) : rraw (s.map (·.drop i)) 1 = if h : i < s.left.length then ([s.left[i]], s.map (·.drop (i + 1))) else ([], none) := by
  cases s with
  | none => simp [rraw, RSt.left]
  | some l =>
    have e : RSt.left (some l) = l := rfl
    show rraw (some (l.drop i)) 1 = _
    unfold rraw
    dsimp only
    by_cases h : i < l.length
    · rw [dif_pos (show i < (RSt.left (some l)).length from h), if_neg (by rw [List.length_drop]; omega)]
      have : List.drop i l = l[i] :: List.drop (i + 1) l := List.drop_eq_getElem_cons h
      rw [this]
      rfl
    · rw [dif_neg (show ¬ i < (RSt.left (some l)).length from h), if_pos (by rw [List.length_drop]; omega)]
theorem map_left (s : RSt) (i : Nat) : RSt.left (s.map (·.drop i)) = s.left.drop i := by cases s <;> simp [RSt.left]

theorem qbad_spec {w0 : World} {r : Nat} {v0 : Value} {b0 : Bool} {G : List Chunk} (hS : Own [qcell r v0 b0, G] w0) :
    Calls Tryd.prog 29 #[.pointer (some ⟨r, 0, none⟩)] w0 (Ret fun x w => x = .tuple #[] ∧ St w0 (idsOf [qcell r v0 b0, G]) [qcell r (.slice none 0 0) true, G] w) := by
  refine calls_enter (l := [.pointer (some ⟨r, 0, none⟩)]) Tryd.func29 rfl Tryd.ntmps29 Tryd.results29 (Nat.le_of_ble_eq_true rfl) ?_
  refine W_seq ?_
  refine W_region ?_
  refine O_move rfl rfl rfl ?_
  refine O_nilCheck rfl rfl rfl ?_
  refine O_fieldAddr rfl rfl rfl ?_
  refine O_store hS rfl rfl rfl rfl (Nat.le_of_ble_eq_true rfl) (fun w hS => ?_)
  refine O_end ?_
  refine W_region ?_
  refine O_move rfl rfl rfl ?_
  refine O_nilCheck rfl rfl rfl ?_
  refine O_fieldAddr rfl rfl rfl ?_
  refine O_store hS rfl rfl rfl rfl (Nat.le_of_ble_eq_true rfl) (fun w hS => ?_)
  refine O_end ?_
  refine ⟨_, rfl, ?_⟩
  exact ⟨rfl, hS⟩

theorem qwhole_spec {w0 : World} {r : Nat} {v0 : Value} {b0 : Bool} {G : List Chunk} {s : RSt} (hS : Own [qcell r v0 b0, G] w0) (hV : RView v0 b0 s G) :
    Calls Tryd.prog 31 #[.pointer (some ⟨r, 0, none⟩)] w0 (Ret fun x w => x = .bool (decide (s = some [])) ∧ St w0 (idsOf [qcell r v0 b0, G]) [qcell r v0 b0, G] w) := by
  obtain ⟨A, c, rfl, hV1⟩ := hV.2
  have hb := hV.1
  refine calls_enter (l := [.pointer (some ⟨r, 0, none⟩)]) Tryd.func31 rfl Tryd.ntmps31 Tryd.results31 (Nat.le_of_ble_eq_true rfl) ?_
  refine W_seq ?_
  refine W_region ?_
  refine O_assign rfl rfl rfl ?_
  refine O_end ?_
  refine W_seq ?_
  refine W_region ?_
  refine O_move rfl rfl rfl ?_
  refine O_nilCheck rfl rfl rfl ?_
  refine O_fieldAddr rfl rfl rfl ?_
  first | refine O_load rfl rfl rfl rfl (hS.cell rfl) ?_ | refine O_load rfl rfl rfl rfl (by assumption) ?_
  refine O_not rfl rfl rfl ?_
  refine O_move rfl rfl rfl ?_
  refine O_part 8 rfl (fun c8 => ?_) (fun c8 => ?_)
  · skip
    refine O_move rfl rfl rfl ?_
    refine O_nilCheck rfl rfl rfl ?_
    refine O_fieldAddr rfl rfl rfl ?_
    first | refine O_load rfl rfl rfl rfl (hS.cell rfl) ?_ | refine O_load rfl rfl rfl rfl (by assumption) ?_
    refine O_len rfl rfl rfl rfl ?_
    refine O_bin rfl rfl rfl rfl rfl ?_
    first | refine O_pick_true rfl rfl rfl rfl ?_ | refine O_pick_false rfl rfl rfl rfl ?_
    refine O_assign rfl rfl rfl ?_
    refine O_end ?_
    refine W_ret ⟨_, rfl, ?_⟩
    refine ⟨congrArg Value.bool ?_, hS⟩
    cases s with
    | none => simp [hb] at c8
    | some l =>
      cases l <;> simp [RSt.left]
      omega
  · skip
    refine O_skip rfl rfl ?_
    refine O_skip rfl rfl ?_
    refine O_skip rfl rfl ?_
    refine O_skip rfl rfl ?_
    refine O_skip rfl rfl ?_
    refine O_skip rfl rfl ?_
    first | refine O_pick_true rfl rfl rfl rfl ?_ | refine O_pick_false rfl rfl rfl rfl ?_
    refine O_assign rfl rfl rfl ?_
    refine O_end ?_
    refine W_ret ⟨_, rfl, ?_⟩
    refine ⟨congrArg Value.bool ?_, hS⟩
    cases s with
    | none => simp
    | some l => simp [hb] at c8

theorem qraw_spec {w0 : World} {r : Nat} {v0 : Value} {b0 : Bool} {G : List Chunk} {s : RSt} {n : Int} (hS : Own [qcell r v0 b0, G] w0) (hV : RView v0 b0 s G) (hl : s.left.length ≤ 1000000000) :
    Calls Tryd.prog 45 #[.pointer (some ⟨r, 0, none⟩), .int .i64 n] w0 (Ret fun x w => ∃ v b G', BRow x (rraw s n).1 G' ∧ RView v b (rraw s n).2 G ∧ ∃ Gs, St w0 (idsOf [qcell r v0 b0, G]) ([G', qcell r v b, G] ++ Gs) w) := by
  obtain ⟨A, c, rfl, hV1⟩ := hV.2
  have hb := hV.1
  refine calls_enter (l := [.pointer (some ⟨r, 0, none⟩), .int .i64 n]) Tryd.func45 rfl Tryd.ntmps45 Tryd.results45 (Nat.le_of_ble_eq_true rfl) ?_
  refine W_seq ?_
  refine W_region ?_
  refine O_assign rfl rfl rfl ?_
  refine O_end ?_
  refine W_seq ?_
  refine W_seq ?_
  refine W_region ?_
  refine O_move rfl rfl rfl ?_
  refine O_bin rfl rfl rfl rfl rfl ?_
  refine O_move rfl rfl rfl ?_
  refine O_part 8 rfl (fun c8 => ?_) (fun c8 => ?_)
  · skip
    refine O_skip rfl rfl ?_
    refine O_skip rfl rfl ?_
    refine O_skip rfl rfl ?_
    refine O_skip rfl rfl ?_
    refine O_skip rfl rfl ?_
    refine O_skip rfl rfl ?_
    refine O_skip rfl rfl ?_
    first | refine O_pick_true rfl rfl rfl rfl ?_ | refine O_pick_false rfl rfl rfl rfl ?_
    refine O_end ?_
    refine W_if_true rfl (rfl) ?_
    refine W_region ?_
    refine O_move rfl rfl rfl ?_
    refine O_call rfl rfl rfl (qbad_spec hS.own2) (fun x w ⟨hx, hk⟩ => ?_)
    have hS := hS.after2 hk
    refine O_end ?_
    refine W_seq ?_
    refine W_seq ?_
    refine W_region ?_
    refine O_move rfl rfl rfl ?_
    refine O_nilCheck rfl rfl rfl ?_
    refine O_fieldAddr rfl rfl rfl ?_
    first | refine O_load rfl rfl rfl rfl (hS.cell rfl) ?_ | refine O_load rfl rfl rfl rfl (by assumption) ?_
    refine O_end ?_
    refine W_if_true rfl (rfl) ?_
    refine W_seq ?_
    refine W_region ?_
    refine O_assign rfl rfl rfl ?_
    refine O_end ?_
    refine W_ret ⟨_, rfl, ?_⟩
    have hS := hS.empty
    have he : rraw s n = ([], none) := by
      cases s with
      | none => rfl
      | some l =>
        unfold rraw
        dsimp only
        rw [if_pos]
        first
          | exact .inl (of_decide_eq_true c8)
          | exact .inr (of_decide_eq_true c16)
    rw [he]
    exact ⟨_, _, [], Row.nil _ _, RView.bad G, [], hS⟩
  · skip
    refine O_move rfl rfl rfl ?_
    refine O_move rfl rfl rfl ?_
    refine O_nilCheck rfl rfl rfl ?_
    refine O_fieldAddr rfl rfl rfl ?_
    first | refine O_load rfl rfl rfl rfl (hS.cell rfl) ?_ | refine O_load rfl rfl rfl rfl (by assumption) ?_
    refine O_len rfl rfl rfl rfl ?_
    refine O_bin rfl rfl rfl rfl rfl ?_
    first | refine O_pick_true rfl rfl rfl rfl ?_ | refine O_pick_false rfl rfl rfl rfl ?_
    refine O_end ?_
    refine W_if rfl (fun c16 => ?_) (fun c16 => ?_)
    · skip
      refine W_region ?_
      refine O_move rfl rfl rfl ?_
      refine O_call rfl rfl rfl (qbad_spec hS.own2) (fun x w ⟨hx, hk⟩ => ?_)
      have hS := hS.after2 hk
      refine O_end ?_
      refine W_seq ?_
      refine W_seq ?_
      refine W_region ?_
      refine O_move rfl rfl rfl ?_
      refine O_nilCheck rfl rfl rfl ?_
      refine O_fieldAddr rfl rfl rfl ?_
      first | refine O_load rfl rfl rfl rfl (hS.cell rfl) ?_ | refine O_load rfl rfl rfl rfl (by assumption) ?_
      refine O_end ?_
      refine W_if_true rfl (rfl) ?_
      refine W_seq ?_
      refine W_region ?_
      refine O_assign rfl rfl rfl ?_
      refine O_end ?_
      refine W_ret ⟨_, rfl, ?_⟩
      have hS := hS.empty
      have he : rraw s n = ([], none) := by
        cases s with
        | none => rfl
        | some l =>
          unfold rraw
          dsimp only
          rw [if_pos]
          first
            | exact .inl (of_decide_eq_true c8)
            | exact .inr (of_decide_eq_true c16)
      rw [he]
      exact ⟨_, _, [], Row.nil _ _, RView.bad G, [], hS⟩
    · skip
      refine W_skip ?_
      refine W_seq ?_
      refine W_seq ?_
      refine W_region ?_
      refine O_move rfl rfl rfl ?_
      refine O_nilCheck rfl rfl rfl ?_
      refine O_fieldAddr rfl rfl rfl ?_
      first | refine O_load rfl rfl rfl rfl (hS.cell rfl) ?_ | refine O_load rfl rfl rfl rfl (by assumption) ?_
      refine O_end ?_
      refine W_if rfl (fun c22 => ?_) (fun c22 => ?_)
      · skip
        refine W_seq ?_
        refine W_region ?_
        refine O_assign rfl rfl rfl ?_
        refine O_end ?_
        refine W_ret ⟨_, rfl, ?_⟩
        have hS := hS.empty
        have hs : s = none := by
          rw [hb] at c22
          cases s <;> simp_all
        subst hs
        exact ⟨_, _, [], Row.nil _ _, hV, [], hS⟩
      · skip
        refine W_skip ?_
        refine W_seq ?_
        refine W_region ?_
        have hn0 : 0 ≤ n := by have := of_decide_eq_false c8; omega
        have hn1 : n ≤ s.left.length := by have := of_decide_eq_false c16; omega
        refine O_lit hS rfl rfl rfl rfl rfl rfl (Nat.le_of_ble_eq_true rfl) (fun b23 w hS => ?_)
        have hS := hS.f1
        refine O_move rfl rfl rfl ?_
        refine O_nilCheck rfl rfl rfl ?_
        refine O_fieldAddr rfl rfl rfl ?_
        first | refine O_load rfl rfl rfl rfl (hS.cell rfl) ?_ | refine O_load rfl rfl rfl rfl (by assumption) ?_
        refine O_move rfl rfl rfl ?_
        have hS := hS.f1
        obtain ⟨hc1, hc2, hrd⟩ := hV1
        obtain ⟨k, rfl⟩ : ∃ k : Nat, n = k := ⟨n.toNat, by omega⟩
        have hk0 : k ≤ s.left.length := by omega
        refine O_slice_to rfl rfl rfl rfl (by omega) ?_
        obtain ⟨hr1, hr2⟩ := hrd _ _ _ _ hS.f2
        have hr3 : Rd w A (bvs (s.left.take k)) := by rw [bvs_take]; exact hr1.take k
        have hlen : (s.left.take k).length = k := by rw [List.length_take]; omega
        refine O_append hS (Row.made (size := 1) (by simp [maxLen]) (Nat.zero_le _)) rfl rfl (by decide) rfl rfl rfl (news := bvs (s.left.take k)) (by simp; omega) hr3 (bvs_one _) (by omega) (by unfold maxLen; omega) (fun v5 G5 w hG5 hS => ?_)
        have hG5' : BRow v5 (s.left.take k) G5 := by
          have h1 := hG5
          rw [List.nil_append, Nat.zero_add] at h1
          unfold BRow
          rw [hlen]
          exact h1
        have hS := hS.f1
        refine O_assign rfl rfl rfl ?_
        refine O_end ?_
        refine W_seq ?_
        refine W_region ?_
        refine O_move rfl rfl rfl ?_
        refine O_move rfl rfl rfl ?_
        refine O_nilCheck rfl rfl rfl ?_
        refine O_fieldAddr rfl rfl rfl ?_
        first | refine O_load rfl rfl rfl rfl (hS.cell rfl) ?_ | refine O_load rfl rfl rfl rfl (by assumption) ?_
        refine O_move rfl rfl rfl ?_
        refine O_slice_from rfl rfl rfl rfl (by omega) ?_
        refine O_nilCheck rfl rfl rfl ?_
        refine O_fieldAddr rfl rfl rfl ?_
        refine O_store hS rfl rfl rfl rfl (Nat.le_of_ble_eq_true rfl) (fun w hS => ?_)
        refine O_end ?_
        refine W_seq ?_
        refine W_region ?_
        refine O_move rfl rfl rfl ?_
        refine O_assign rfl rfl rfl ?_
        refine O_end ?_
        refine W_ret ⟨_, rfl, ?_⟩
        refine ⟨_, _, G5, ?_, ?_, [], hS.f1⟩
        · have he : (rraw s k).1 = s.left.take k := by
            cases s with
            | none => rw [show RSt.left none = [] from rfl]; simp [rraw]
            | some l => unfold rraw; dsimp only; rw [if_neg (by simp only [RSt.left, Option.getD_some] at hn1; omega)]; simp [RSt.left]
          rw [he]
          exact hG5'
        · have he : (rraw s k).2 = s.map (·.drop k) := by
            cases s with
            | none => rfl
            | some l => unfold rraw; dsimp only; rw [if_neg (by simp only [RSt.left, Option.getD_some] at hn1; omega)]; simp
          have he2 : (rraw s k).2.left = s.left.drop k := by
            rw [he]; cases s <;> simp [RSt.left]
          refine ⟨by rw [hb, he]; cases s <;> rfl, ?_⟩
          rw [he2]
          exact hV.2.drop hk0

set_option maxHeartbeats 400000 in
theorem qnum_spec {w0 : World} {r : Nat} {v0 : Value} {b0 : Bool} {G : List Chunk} {s : RSt} (hS : Own [qcell r v0 b0, G] w0) (hV : RView v0 b0 s G) (hl : s.left.length ≤ 1000000000) :
    Calls Tryd.prog 28 #[.pointer (some ⟨r, 0, none⟩)] w0 (Ret fun x w => x = .int .i64 ((rnum s).1 : Nat) ∧ ∃ v b, RView v b (rnum s).2 G ∧ ∃ Gs, St w0 (idsOf [qcell r v0 b0, G]) ([qcell r v b, G] ++ Gs) w) := by
  refine calls_enter (l := [.pointer (some ⟨r, 0, none⟩)]) Tryd.func28 rfl Tryd.ntmps28 Tryd.results28 (Nat.le_of_ble_eq_true rfl) ?_
  refine W_seq ?_
  refine W_region ?_
  refine O_assign rfl rfl rfl ?_
  refine O_end ?_
  refine W_seq ?_
  refine W_region ?_
  refine O_assign rfl rfl rfl ?_
  refine O_end ?_
  refine W_seq ?_
  refine W_seq ?_
  refine W_region ?_
  refine O_assign rfl rfl rfl ?_
  refine O_end ?_
  refine W_block ?_
  have hV0 : RView v0 b0 (s.map (·.drop 0)) G := by
    have : s.map (·.drop 0) = s := by cases s <;> simp
    rw [this]; exact hV
  refine W_loop (ι := Nat × Nat × Value × Bool) (fun i => [(0, .pointer (some ⟨r, 0, none⟩)), (3, .int .u64 (i.2.1 : Nat)), (4, .int .i64 (i.1 : Nat))])
      (fun i w => i.1 ≤ 10 ∧ i.2.1 < 128 ^ i.1 ∧ dec s.left = decGo i.1 i.2.1 (s.left.drop i.1) ∧ RView i.2.2.1 i.2.2.2 (s.map (·.drop i.1)) G ∧ ∃ Gs, St w0 (idsOf [qcell r v0 b0, G]) ([qcell r i.2.2.1 i.2.2.2, G] ++ Gs) w) (fun i => 10 - i.1) (0, 0, v0, b0)
      ⟨rfl, rfl, rfl, trivial⟩ ⟨Nat.zero_le _, by simp, rfl, hV0, [], hS⟩ ?_
  rintro ⟨i, u, v, b⟩ w ⟨hi, hu, hdec, hV, Gs, hS⟩
  dsimp only at hi hu hdec hV hS ⊢
  refine W_seq ?_
  refine W_seq ?_
  refine W_region ?_
  refine O_move rfl rfl rfl ?_
  refine O_bin rfl rfl rfl rfl rfl ?_
  refine O_end ?_
  refine W_if rfl (fun c8 => ?_) (fun c8 => ?_)
  · skip
    refine W_skip ?_
    refine W_seq ?_
    refine W_block ?_
    refine W_seq ?_
    refine W_region ?_
    refine O_move rfl rfl rfl ?_
    have hlr : (RSt.left (s.map (·.drop i))).length ≤ 1000000000 := by rw [map_left, List.length_drop]; omega
    have hcall := qraw_spec (n := 1) hS.own2 hV hlr
    rw [rraw_one] at hcall
    refine O_call rfl rfl rfl hcall (fun x w ⟨v, b, G5, hG5, hV, Gs5, hk⟩ => ?_)
    have hS := hS.after2 hk
    have hS := hS.f1.f2.f1
    refine O_assign rfl rfl rfl ?_
    refine O_end ?_
    refine W_seq ?_
    refine W_seq ?_
    refine W_region ?_
    refine O_move rfl rfl rfl ?_
    refine O_nilCheck rfl rfl rfl ?_
    refine O_fieldAddr rfl rfl rfl ?_
    first | refine O_load rfl rfl rfl rfl (hS.cell rfl) ?_ | refine O_load rfl rfl rfl rfl (by assumption) ?_
    refine O_end ?_
    refine W_if rfl (fun c16 => ?_) (fun c16 => ?_)
    · skip
      refine W_seq ?_
      refine W_region ?_
      refine O_assign rfl rfl rfl ?_
      refine O_end ?_
      refine W_ret ⟨_, rfl, ?_⟩
      have hge : ¬ i < s.left.length := by
        intro h
        rw [dif_pos h] at hV
        have h1 := hV.1
        rw [c16] at h1
        cases s with
        | none => simp [RSt.left] at h
        | some l => simp at h1
      rw [dif_neg hge] at hV
      have hnone : dec s.left = none := by rw [hdec, List.drop_eq_nil_of_le (by omega)]; rfl
      rw [rnum_none hnone]
      exact ⟨rfl, _, _, hV, _, hS⟩
    · skip
      refine W_skip ?_
      refine W_seq ?_
      refine W_region ?_
      have hi9 : i ≤ 9 := by have := of_decide_eq_true c8; omega
      have hlt : i < s.left.length := by
        rcases Nat.lt_or_ge i s.left.length with h | h
        · exact h
        · rw [dif_neg (by omega)] at hV
          rw [hV.1] at c16
          simp at c16
      rw [dif_pos hlt] at hV hG5
      dsimp only at hV hG5
      have hcons : s.left.drop i = s.left[i] :: s.left.drop (i + 1) := List.drop_eq_getElem_cons hlt
      rw [hcons, decGo_cons] at hdec
      refine O_move rfl rfl rfl ?_
      obtain ⟨A5, c5, hx5, _, _, hr5, _⟩ := hG5.rd hS.f2
      subst hx5
      refine O_indexRd (j := 0) rfl rfl rfl rfl hr5 (v := bv s.left[i]) rfl (Nat.zero_lt_one) (fun ad hA hc => ?_)
      refine O_load rfl rfl rfl rfl hc ?_
      refine O_assign rfl rfl rfl ?_
      refine O_end ?_
      refine W_seq ?_
      refine W_seq ?_
      refine W_region ?_
      refine O_move rfl rfl rfl ?_
      refine O_bin rfl rfl rfl rfl rfl ?_
      refine O_move rfl rfl rfl ?_
      refine O_part 22 rfl (fun c22 => ?_) (fun c22 => ?_)
      · skip
        refine O_move rfl rfl rfl ?_
        refine O_bin rfl rfl rfl rfl rfl ?_
        first | refine O_pick_true rfl rfl rfl rfl ?_ | refine O_pick_false rfl rfl rfl rfl ?_
        refine O_end ?_
        refine W_if rfl (fun c25 => ?_) (fun c25 => ?_)
        · skip
          refine W_exit ?_
          refine W_seq ?_
          refine W_region ?_
          have hnone : dec s.left = none := by rw [hdec, if_pos (.inl (by have := beq_iff_eq.1 c22; omega))]
          refine O_move rfl rfl rfl ?_
          refine O_call rfl rfl rfl (qbad_spec hS.own2) (fun x w ⟨hx, hk⟩ => ?_)
          have hS := hS.after2 hk
          refine O_end ?_
          refine W_seq ?_
          refine W_region ?_
          refine O_assign rfl rfl rfl ?_
          refine O_end ?_
          refine W_ret ⟨_, rfl, ?_⟩
          rw [rnum_none hnone]
          exact ⟨rfl, _, _, RView.bad G, _, hS⟩
        · skip
          refine W_skip ?_
          refine W_seq ?_
          refine W_seq ?_
          refine W_region ?_
          refine O_move rfl rfl rfl ?_
          refine O_bin rfl rfl rfl rfl rfl ?_
          refine O_move rfl rfl rfl ?_
          refine O_know 28 (.bool true) rfl (congrArg Value.bool (c22)) ?_
          refine O_move rfl rfl rfl ?_
          refine O_bin rfl rfl rfl rfl rfl ?_
          first | refine O_pick_true rfl rfl rfl rfl ?_ | refine O_pick_false rfl rfl rfl rfl ?_
          refine O_end ?_
          refine W_if rfl (fun c31 => ?_) (fun c31 => ?_)
          · skip
            refine W_exit ?_
            refine W_seq ?_
            refine W_region ?_
            have hnone : dec s.left = none := by rw [hdec, if_pos (.inl (by have := beq_iff_eq.1 c22; omega))]
            refine O_move rfl rfl rfl ?_
            refine O_call rfl rfl rfl (qbad_spec hS.own2) (fun x w ⟨hx, hk⟩ => ?_)
            have hS := hS.after2 hk
            refine O_end ?_
            refine W_seq ?_
            refine W_region ?_
            refine O_assign rfl rfl rfl ?_
            refine O_end ?_
            refine W_ret ⟨_, rfl, ?_⟩
            rw [rnum_none hnone]
            exact ⟨rfl, _, _, RView.bad G, _, hS⟩
          · skip
            refine W_skip ?_
            refine W_seq ?_
            refine W_region ?_
            have hb9 : i = 9 → s.left[i].toNat ≤ 1 := by
              intro h9
              first
                | (have h8 := of_decide_eq_false c31; omega)
                | (have h8 := of_decide_eq_false c25; omega)
                | (have h8 := beq_eq_false_iff_ne.1 c22; omega)
                | (have h8 := beq_eq_false_iff_ne.1 c28; omega)
            have hmod : s.left[i].toNat % 128 = s.left[i].toNat % 128 := rfl
            have hpl := place_small i (s.left[i].toNat % 128) (by omega) (Nat.mod_lt _ (by decide)) (by intro h9; have := hb9 h9; omega)
            have hu64 : u < 9223372036854775808 := by
              have h1 := Nat.pow_le_pow_right (show 0 < 128 by decide) (show i ≤ 9 by omega)
              rw [show (128 : Nat) ^ 9 = 9223372036854775808 from by decide] at h1
              omega
            refine O_move rfl rfl rfl ?_
            refine O_move rfl rfl rfl ?_
            refine O_bin rfl rfl rfl rfl (ev_and127b _) ?_
            refine O_conv rfl rfl rfl (conv_u64 _ (by omega)) ?_
            refine O_move rfl rfl rfl ?_
            refine O_bin rfl rfl rfl rfl (mul7 i (by omega)) ?_
            refine O_conv rfl rfl rfl (conv_u64 _ (by omega)) ?_
            refine O_shift rfl rfl rfl rfl (by omega) (shl7' _ i (by omega) (by omega)) ?_
            refine O_bin rfl rfl rfl rfl (or_step' u _ i hu (by omega)) ?_
            refine O_assign rfl rfl rfl ?_
            refine O_end ?_
            refine W_seq ?_
            refine W_seq ?_
            refine W_region ?_
            refine O_move rfl rfl rfl ?_
            refine O_bin rfl rfl rfl rfl rfl ?_
            refine O_end ?_
            refine W_if rfl (fun c42 => ?_) (fun c42 => ?_)
            · skip
              refine W_exit ?_
              refine W_region ?_
              refine O_move rfl rfl rfl ?_
              refine O_bin rfl rfl rfl rfl (i64_succ i (by omega)) ?_
              refine O_assign rfl rfl rfl ?_
              refine O_end ?_
              have h42 := of_decide_eq_true c42
              have h9 : ¬ 9 ≤ i := by intro h; have := hb9 (by omega); omega
              have hstep : dec s.left = decGo (i + 1) (u + s.left[i].toNat % 128 * 128 ^ i) (s.left.drop (i + 1)) := by
                rw [hdec, if_neg, if_neg (by omega)]
                rintro (h | ⟨_, h⟩)
                · omega
                · rw [h] at h42; exact absurd h42 (by decide)
              refine ⟨(i + 1, u + s.left[i].toNat % 128 * 128 ^ i, v, b), ⟨rfl, rfl, rfl, trivial⟩, ⟨by dsimp only; omega, ?_, hstep, hV, _, hS⟩, by dsimp only; omega⟩
              dsimp only
              rw [Nat.pow_succ]
              have h1 : s.left[i].toNat % 128 * 128 ^ i ≤ 127 * 128 ^ i := Nat.mul_le_mul_right _ (by omega)
              omega
            · skip
              refine W_skip ?_
              refine W_seq ?_
              refine W_seq ?_
              refine W_region ?_
              refine O_move rfl rfl rfl ?_
              refine O_bin rfl rfl rfl rfl rfl ?_
              refine O_move rfl rfl rfl ?_
              refine O_part 45 rfl (fun c45 => ?_) (fun c45 => ?_)
              · skip
                refine O_move rfl rfl rfl ?_
                refine O_bin rfl rfl rfl rfl rfl ?_
                first | refine O_pick_true rfl rfl rfl rfl ?_ | refine O_pick_false rfl rfl rfl rfl ?_
                refine O_move rfl rfl rfl ?_
                refine O_part 49 rfl (fun c49 => ?_) (fun c49 => ?_)
                · skip
                  refine O_skip rfl rfl ?_
                  refine O_skip rfl rfl ?_
                  first | refine O_pick_true rfl rfl rfl rfl ?_ | refine O_pick_false rfl rfl rfl rfl ?_
                  refine O_end ?_
                  refine W_if_true rfl (rfl) ?_
                  refine W_exit ?_
                  refine W_seq ?_
                  refine W_region ?_
                  have hnone : dec s.left = none := by
                    rw [hdec, if_pos (.inr ⟨by have := of_decide_eq_true c45; omega, byte_eq (x := s.left[i]) (y := 0) (by simpa using c49)⟩)]
                  refine O_move rfl rfl rfl ?_
                  refine O_call rfl rfl rfl (qbad_spec hS.own2) (fun x w ⟨hx, hk⟩ => ?_)
                  have hS := hS.after2 hk
                  refine O_end ?_
                  refine W_seq ?_
                  refine W_region ?_
                  refine O_assign rfl rfl rfl ?_
                  refine O_end ?_
                  refine W_ret ⟨_, rfl, ?_⟩
                  rw [rnum_none hnone]
                  exact ⟨rfl, _, _, RView.bad G, _, hS⟩
                · skip
                  refine O_move rfl rfl rfl ?_
                  refine O_bin rfl rfl rfl rfl rfl ?_
                  first | refine O_pick_true rfl rfl rfl rfl ?_ | refine O_pick_false rfl rfl rfl rfl ?_
                  refine O_end ?_
                  refine W_if rfl (fun c52 => ?_) (fun c52 => ?_)
                  · skip
                    refine W_exit ?_
                    refine W_seq ?_
                    refine W_region ?_
                    have hnone : dec s.left = none := by
                      rw [hdec]
                      split
                      · rfl
                      · rw [if_pos (by have := of_decide_eq_false c42; omega), if_pos (by have := of_decide_eq_true c52; omega)]
                    refine O_move rfl rfl rfl ?_
                    refine O_call rfl rfl rfl (qbad_spec hS.own2) (fun x w ⟨hx, hk⟩ => ?_)
                    have hS := hS.after2 hk
                    refine O_end ?_
                    refine W_seq ?_
                    refine W_region ?_
                    refine O_assign rfl rfl rfl ?_
                    refine O_end ?_
                    refine W_ret ⟨_, rfl, ?_⟩
                    rw [rnum_none hnone]
                    exact ⟨rfl, _, _, RView.bad G, _, hS⟩
                  · skip
                    refine W_skip ?_
                    refine W_seq ?_
                    refine W_region ?_
                    have hc52 : u + s.left[i].toNat % 128 * 128 ^ i ≤ 4611686018427387904 := by have := of_decide_eq_false c52; omega
                    refine O_move rfl rfl rfl ?_
                    refine O_conv rfl rfl rfl (conv_i64 _ (by omega)) ?_
                    refine O_assign rfl rfl rfl ?_
                    refine O_end ?_
                    refine W_ret ⟨_, rfl, ?_⟩
                    have h42 := of_decide_eq_false c42
                    have h0 : ¬ (0 < i ∧ s.left[i] = 0) := by
                      rintro ⟨h1, h2⟩
                      first
                        | (have := of_decide_eq_false c45; omega)
                        | (rw [h2] at c49; exact absurd c49 (by decide))
                    have h9 : ¬ 9 ≤ i := by
                      intro h
                      have h1 := hb9 (by omega)
                      have h2 : s.left[i].toNat ≠ 0 := fun h2 => h0 ⟨by omega, byte_eq (x := s.left[i]) (y := 0) (by rw [h2]; rfl)⟩
                      have h3 : s.left[i].toNat = 1 := by omega
                      have h4 : i = 9 := by omega
                      rw [h3, h4] at hc52
                      exact absurd hc52 (by have : (1 % 128 * 128 ^ 9 : Nat) = 9223372036854775808 := by decide
                                            omega)
                    have hd : dec s.left = some (u + s.left[i].toNat % 128 * 128 ^ i, s.left.drop (i + 1)) := by
                      rw [hdec, if_neg (by rintro (h | h); exact h9 h; exact h0 h), if_pos (by omega), if_neg (by omega)]
                    rw [rnum_some hd]
                    have he : s.map (·.drop (i + 1)) = some (s.left.drop (i + 1)) := by
                      cases s with
                      | none => simp [RSt.left] at hlt
                      | some l => rfl
                    rw [he] at hV
                    exact ⟨rfl, _, _, hV, _, hS⟩
              · skip
                refine O_skip rfl rfl ?_
                refine O_skip rfl rfl ?_
                first | refine O_pick_true rfl rfl rfl rfl ?_ | refine O_pick_false rfl rfl rfl rfl ?_
                refine O_move rfl rfl rfl ?_
                refine O_know 49 (.bool false) rfl (congrArg Value.bool (rfl)) ?_
                refine O_move rfl rfl rfl ?_
                refine O_bin rfl rfl rfl rfl rfl ?_
                first | refine O_pick_true rfl rfl rfl rfl ?_ | refine O_pick_false rfl rfl rfl rfl ?_
                refine O_end ?_
                refine W_if rfl (fun c52 => ?_) (fun c52 => ?_)
                · skip
                  refine W_exit ?_
                  refine W_seq ?_
                  refine W_region ?_
                  have hnone : dec s.left = none := by
                    rw [hdec]
                    split
                    · rfl
                    · rw [if_pos (by have := of_decide_eq_false c42; omega), if_pos (by have := of_decide_eq_true c52; omega)]
                  refine O_move rfl rfl rfl ?_
                  refine O_call rfl rfl rfl (qbad_spec hS.own2) (fun x w ⟨hx, hk⟩ => ?_)
                  have hS := hS.after2 hk
                  refine O_end ?_
                  refine W_seq ?_
                  refine W_region ?_
                  refine O_assign rfl rfl rfl ?_
                  refine O_end ?_
                  refine W_ret ⟨_, rfl, ?_⟩
                  rw [rnum_none hnone]
                  exact ⟨rfl, _, _, RView.bad G, _, hS⟩
                · skip
                  refine W_skip ?_
                  refine W_seq ?_
                  refine W_region ?_
                  have hc52 : u + s.left[i].toNat % 128 * 128 ^ i ≤ 4611686018427387904 := by have := of_decide_eq_false c52; omega
                  refine O_move rfl rfl rfl ?_
                  refine O_conv rfl rfl rfl (conv_i64 _ (by omega)) ?_
                  refine O_assign rfl rfl rfl ?_
                  refine O_end ?_
                  refine W_ret ⟨_, rfl, ?_⟩
                  have h42 := of_decide_eq_false c42
                  have h0 : ¬ (0 < i ∧ s.left[i] = 0) := by
                    rintro ⟨h1, h2⟩
                    first
                      | (have := of_decide_eq_false c45; omega)
                      | (rw [h2] at c49; exact absurd c49 (by decide))
                  have h9 : ¬ 9 ≤ i := by
                    intro h
                    have h1 := hb9 (by omega)
                    have h2 : s.left[i].toNat ≠ 0 := fun h2 => h0 ⟨by omega, byte_eq (x := s.left[i]) (y := 0) (by rw [h2]; rfl)⟩
                    have h3 : s.left[i].toNat = 1 := by omega
                    have h4 : i = 9 := by omega
                    rw [h3, h4] at hc52
                    exact absurd hc52 (by have : (1 % 128 * 128 ^ 9 : Nat) = 9223372036854775808 := by decide
                                          omega)
                  have hd : dec s.left = some (u + s.left[i].toNat % 128 * 128 ^ i, s.left.drop (i + 1)) := by
                    rw [hdec, if_neg (by rintro (h | h); exact h9 h; exact h0 h), if_pos (by omega), if_neg (by omega)]
                  rw [rnum_some hd]
                  have he : s.map (·.drop (i + 1)) = some (s.left.drop (i + 1)) := by
                    cases s with
                    | none => simp [RSt.left] at hlt
                    | some l => rfl
                  rw [he] at hV
                  exact ⟨rfl, _, _, hV, _, hS⟩
      · skip
        refine O_skip rfl rfl ?_
        refine O_skip rfl rfl ?_
        first | refine O_pick_true rfl rfl rfl rfl ?_ | refine O_pick_false rfl rfl rfl rfl ?_
        refine O_end ?_
        refine W_if_false rfl (rfl) ?_
        refine W_skip ?_
        refine W_seq ?_
        refine W_seq ?_
        refine W_region ?_
        refine O_move rfl rfl rfl ?_
        refine O_bin rfl rfl rfl rfl rfl ?_
        refine O_move rfl rfl rfl ?_
        refine O_know 28 (.bool false) rfl (congrArg Value.bool (c22)) ?_
        refine O_skip rfl rfl ?_
        refine O_skip rfl rfl ?_
        first | refine O_pick_true rfl rfl rfl rfl ?_ | refine O_pick_false rfl rfl rfl rfl ?_
        refine O_end ?_
        refine W_if_false rfl (rfl) ?_
        refine W_skip ?_
        refine W_seq ?_
        refine W_region ?_
        have hb9 : i = 9 → s.left[i].toNat ≤ 1 := by
          intro h9
          first
            | (have h8 := of_decide_eq_false c31; omega)
            | (have h8 := of_decide_eq_false c25; omega)
            | (have h8 := beq_eq_false_iff_ne.1 c22; omega)
            | (have h8 := beq_eq_false_iff_ne.1 c28; omega)
        have hmod : s.left[i].toNat % 128 = s.left[i].toNat % 128 := rfl
        have hpl := place_small i (s.left[i].toNat % 128) (by omega) (Nat.mod_lt _ (by decide)) (by intro h9; have := hb9 h9; omega)
        have hu64 : u < 9223372036854775808 := by
          have h1 := Nat.pow_le_pow_right (show 0 < 128 by decide) (show i ≤ 9 by omega)
          rw [show (128 : Nat) ^ 9 = 9223372036854775808 from by decide] at h1
          omega
        refine O_move rfl rfl rfl ?_
        refine O_move rfl rfl rfl ?_
        refine O_bin rfl rfl rfl rfl (ev_and127b _) ?_
        refine O_conv rfl rfl rfl (conv_u64 _ (by omega)) ?_
        refine O_move rfl rfl rfl ?_
        refine O_bin rfl rfl rfl rfl (mul7 i (by omega)) ?_
        refine O_conv rfl rfl rfl (conv_u64 _ (by omega)) ?_
        refine O_shift rfl rfl rfl rfl (by omega) (shl7' _ i (by omega) (by omega)) ?_
        refine O_bin rfl rfl rfl rfl (or_step' u _ i hu (by omega)) ?_
        refine O_assign rfl rfl rfl ?_
        refine O_end ?_
        refine W_seq ?_
        refine W_seq ?_
        refine W_region ?_
        refine O_move rfl rfl rfl ?_
        refine O_bin rfl rfl rfl rfl rfl ?_
        refine O_end ?_
        refine W_if rfl (fun c42 => ?_) (fun c42 => ?_)
        · skip
          refine W_exit ?_
          refine W_region ?_
          refine O_move rfl rfl rfl ?_
          refine O_bin rfl rfl rfl rfl (i64_succ i (by omega)) ?_
          refine O_assign rfl rfl rfl ?_
          refine O_end ?_
          have h42 := of_decide_eq_true c42
          have h9 : ¬ 9 ≤ i := by intro h; have := hb9 (by omega); omega
          have hstep : dec s.left = decGo (i + 1) (u + s.left[i].toNat % 128 * 128 ^ i) (s.left.drop (i + 1)) := by
            rw [hdec, if_neg, if_neg (by omega)]
            rintro (h | ⟨_, h⟩)
            · omega
            · rw [h] at h42; exact absurd h42 (by decide)
          refine ⟨(i + 1, u + s.left[i].toNat % 128 * 128 ^ i, v, b), ⟨rfl, rfl, rfl, trivial⟩, ⟨by dsimp only; omega, ?_, hstep, hV, _, hS⟩, by dsimp only; omega⟩
          dsimp only
          rw [Nat.pow_succ]
          have h1 : s.left[i].toNat % 128 * 128 ^ i ≤ 127 * 128 ^ i := Nat.mul_le_mul_right _ (by omega)
          omega
        · skip
          refine W_skip ?_
          refine W_seq ?_
          refine W_seq ?_
          refine W_region ?_
          refine O_move rfl rfl rfl ?_
          refine O_bin rfl rfl rfl rfl rfl ?_
          refine O_move rfl rfl rfl ?_
          refine O_part 45 rfl (fun c45 => ?_) (fun c45 => ?_)
          · skip
            refine O_move rfl rfl rfl ?_
            refine O_bin rfl rfl rfl rfl rfl ?_
            first | refine O_pick_true rfl rfl rfl rfl ?_ | refine O_pick_false rfl rfl rfl rfl ?_
            refine O_move rfl rfl rfl ?_
            refine O_part 49 rfl (fun c49 => ?_) (fun c49 => ?_)
            · skip
              refine O_skip rfl rfl ?_
              refine O_skip rfl rfl ?_
              first | refine O_pick_true rfl rfl rfl rfl ?_ | refine O_pick_false rfl rfl rfl rfl ?_
              refine O_end ?_
              refine W_if_true rfl (rfl) ?_
              refine W_exit ?_
              refine W_seq ?_
              refine W_region ?_
              have hnone : dec s.left = none := by
                rw [hdec, if_pos (.inr ⟨by have := of_decide_eq_true c45; omega, byte_eq (x := s.left[i]) (y := 0) (by simpa using c49)⟩)]
              refine O_move rfl rfl rfl ?_
              refine O_call rfl rfl rfl (qbad_spec hS.own2) (fun x w ⟨hx, hk⟩ => ?_)
              have hS := hS.after2 hk
              refine O_end ?_
              refine W_seq ?_
              refine W_region ?_
              refine O_assign rfl rfl rfl ?_
              refine O_end ?_
              refine W_ret ⟨_, rfl, ?_⟩
              rw [rnum_none hnone]
              exact ⟨rfl, _, _, RView.bad G, _, hS⟩
            · skip
              refine O_move rfl rfl rfl ?_
              refine O_bin rfl rfl rfl rfl rfl ?_
              first | refine O_pick_true rfl rfl rfl rfl ?_ | refine O_pick_false rfl rfl rfl rfl ?_
              refine O_end ?_
              refine W_if rfl (fun c52 => ?_) (fun c52 => ?_)
              · skip
                refine W_exit ?_
                refine W_seq ?_
                refine W_region ?_
                have hnone : dec s.left = none := by
                  rw [hdec]
                  split
                  · rfl
                  · rw [if_pos (by have := of_decide_eq_false c42; omega), if_pos (by have := of_decide_eq_true c52; omega)]
                refine O_move rfl rfl rfl ?_
                refine O_call rfl rfl rfl (qbad_spec hS.own2) (fun x w ⟨hx, hk⟩ => ?_)
                have hS := hS.after2 hk
                refine O_end ?_
                refine W_seq ?_
                refine W_region ?_
                refine O_assign rfl rfl rfl ?_
                refine O_end ?_
                refine W_ret ⟨_, rfl, ?_⟩
                rw [rnum_none hnone]
                exact ⟨rfl, _, _, RView.bad G, _, hS⟩
              · skip
                refine W_skip ?_
                refine W_seq ?_
                refine W_region ?_
                have hc52 : u + s.left[i].toNat % 128 * 128 ^ i ≤ 4611686018427387904 := by have := of_decide_eq_false c52; omega
                refine O_move rfl rfl rfl ?_
                refine O_conv rfl rfl rfl (conv_i64 _ (by omega)) ?_
                refine O_assign rfl rfl rfl ?_
                refine O_end ?_
                refine W_ret ⟨_, rfl, ?_⟩
                have h42 := of_decide_eq_false c42
                have h0 : ¬ (0 < i ∧ s.left[i] = 0) := by
                  rintro ⟨h1, h2⟩
                  first
                    | (have := of_decide_eq_false c45; omega)
                    | (rw [h2] at c49; exact absurd c49 (by decide))
                have h9 : ¬ 9 ≤ i := by
                  intro h
                  have h1 := hb9 (by omega)
                  have h2 : s.left[i].toNat ≠ 0 := fun h2 => h0 ⟨by omega, byte_eq (x := s.left[i]) (y := 0) (by rw [h2]; rfl)⟩
                  have h3 : s.left[i].toNat = 1 := by omega
                  have h4 : i = 9 := by omega
                  rw [h3, h4] at hc52
                  exact absurd hc52 (by have : (1 % 128 * 128 ^ 9 : Nat) = 9223372036854775808 := by decide
                                        omega)
                have hd : dec s.left = some (u + s.left[i].toNat % 128 * 128 ^ i, s.left.drop (i + 1)) := by
                  rw [hdec, if_neg (by rintro (h | h); exact h9 h; exact h0 h), if_pos (by omega), if_neg (by omega)]
                rw [rnum_some hd]
                have he : s.map (·.drop (i + 1)) = some (s.left.drop (i + 1)) := by
                  cases s with
                  | none => simp [RSt.left] at hlt
                  | some l => rfl
                rw [he] at hV
                exact ⟨rfl, _, _, hV, _, hS⟩
          · skip
            refine O_skip rfl rfl ?_
            refine O_skip rfl rfl ?_
            first | refine O_pick_true rfl rfl rfl rfl ?_ | refine O_pick_false rfl rfl rfl rfl ?_
            refine O_move rfl rfl rfl ?_
            refine O_know 49 (.bool false) rfl (congrArg Value.bool (rfl)) ?_
            refine O_move rfl rfl rfl ?_
            refine O_bin rfl rfl rfl rfl rfl ?_
            first | refine O_pick_true rfl rfl rfl rfl ?_ | refine O_pick_false rfl rfl rfl rfl ?_
            refine O_end ?_
            refine W_if rfl (fun c52 => ?_) (fun c52 => ?_)
            · skip
              refine W_exit ?_
              refine W_seq ?_
              refine W_region ?_
              have hnone : dec s.left = none := by
                rw [hdec]
                split
                · rfl
                · rw [if_pos (by have := of_decide_eq_false c42; omega), if_pos (by have := of_decide_eq_true c52; omega)]
              refine O_move rfl rfl rfl ?_
              refine O_call rfl rfl rfl (qbad_spec hS.own2) (fun x w ⟨hx, hk⟩ => ?_)
              have hS := hS.after2 hk
              refine O_end ?_
              refine W_seq ?_
              refine W_region ?_
              refine O_assign rfl rfl rfl ?_
              refine O_end ?_
              refine W_ret ⟨_, rfl, ?_⟩
              rw [rnum_none hnone]
              exact ⟨rfl, _, _, RView.bad G, _, hS⟩
            · skip
              refine W_skip ?_
              refine W_seq ?_
              refine W_region ?_
              have hc52 : u + s.left[i].toNat % 128 * 128 ^ i ≤ 4611686018427387904 := by have := of_decide_eq_false c52; omega
              refine O_move rfl rfl rfl ?_
              refine O_conv rfl rfl rfl (conv_i64 _ (by omega)) ?_
              refine O_assign rfl rfl rfl ?_
              refine O_end ?_
              refine W_ret ⟨_, rfl, ?_⟩
              have h42 := of_decide_eq_false c42
              have h0 : ¬ (0 < i ∧ s.left[i] = 0) := by
                rintro ⟨h1, h2⟩
                first
                  | (have := of_decide_eq_false c45; omega)
                  | (rw [h2] at c49; exact absurd c49 (by decide))
              have h9 : ¬ 9 ≤ i := by
                intro h
                have h1 := hb9 (by omega)
                have h2 : s.left[i].toNat ≠ 0 := fun h2 => h0 ⟨by omega, byte_eq (x := s.left[i]) (y := 0) (by rw [h2]; rfl)⟩
                have h3 : s.left[i].toNat = 1 := by omega
                have h4 : i = 9 := by omega
                rw [h3, h4] at hc52
                exact absurd hc52 (by have : (1 % 128 * 128 ^ 9 : Nat) = 9223372036854775808 := by decide
                                      omega)
              have hd : dec s.left = some (u + s.left[i].toNat % 128 * 128 ^ i, s.left.drop (i + 1)) := by
                rw [hdec, if_neg (by rintro (h | h); exact h9 h; exact h0 h), if_pos (by omega), if_neg (by omega)]
              rw [rnum_some hd]
              have he : s.map (·.drop (i + 1)) = some (s.left.drop (i + 1)) := by
                cases s with
                | none => simp [RSt.left] at hlt
                | some l => rfl
              rw [he] at hV
              exact ⟨rfl, _, _, hV, _, hS⟩
  · skip
    refine W_exit ?_
    refine W_seq ?_
    refine W_region ?_
    have hnone : dec s.left = none := by
      rw [hdec]
      have h8 := of_decide_eq_false c8
      cases s.left.drop i with
      | nil => rfl
      | cons c r => rw [decGo_cons, if_pos (.inl (by omega))]
    refine O_move rfl rfl rfl ?_
    refine O_call rfl rfl rfl (qbad_spec hS.own2) (fun x w ⟨hx, hk⟩ => ?_)
    have hS := hS.after2 hk
    refine O_end ?_
    refine W_seq ?_
    refine W_region ?_
    refine O_assign rfl rfl rfl ?_
    refine O_end ?_
    refine W_ret ⟨_, rfl, ?_⟩
    rw [rnum_none hnone]
    exact ⟨rfl, _, _, RView.bad G, _, hS⟩

theorem qbytes_spec {w0 : World} {r : Nat} {v0 : Value} {b0 : Bool} {G : List Chunk} {s : RSt} (hS : Own [qcell r v0 b0, G] w0) (hV : RView v0 b0 s G) (hl : s.left.length ≤ 1000000000) :
    Calls Tryd.prog 30 #[.pointer (some ⟨r, 0, none⟩)] w0 (Ret fun x w => ∃ v b G', BRow x (rbytes s).1 G' ∧ RView v b (rbytes s).2 G ∧ ∃ Gs, St w0 (idsOf [qcell r v0 b0, G]) ([G', qcell r v b, G] ++ Gs) w) := by
  refine calls_enter (l := [.pointer (some ⟨r, 0, none⟩)]) Tryd.func30 rfl Tryd.ntmps30 Tryd.results30 (Nat.le_of_ble_eq_true rfl) ?_
  refine W_seq ?_
  refine W_region ?_
  refine O_assign rfl rfl rfl ?_
  refine O_end ?_
  refine W_seq ?_
  refine W_region ?_
  refine O_move rfl rfl rfl ?_
  have hcall := qnum_spec hS.own2 hV hl
  refine O_call rfl rfl rfl hcall (fun x w ⟨hx, v1, b1, hV1, Gs1, hk⟩ => ?_)
  subst hx
  have hS := hS.after2 hk
  refine O_assign rfl rfl rfl ?_
  refine O_end ?_
  refine W_seq ?_
  refine W_seq ?_
  refine W_region ?_
  refine O_move rfl rfl rfl ?_
  refine O_nilCheck rfl rfl rfl ?_
  refine O_fieldAddr rfl rfl rfl ?_
  first | refine O_load rfl rfl rfl rfl (hS.cell rfl) ?_ | refine O_load rfl rfl rfl rfl (by assumption) ?_
  refine O_end ?_
  refine W_if rfl (fun c9 => ?_) (fun c9 => ?_)
  · skip
    refine W_seq ?_
    refine W_region ?_
    refine O_assign rfl rfl rfl ?_
    refine O_end ?_
    refine W_ret ⟨_, rfl, ?_⟩
    have hs : (rnum s).2 = none := by
      have h1 := hV1.1
      rw [c9] at h1
      cases h : (rnum s).2 with
      | none => rfl
      | some l => rw [h] at h1; simp at h1
    have he : rbytes s = ([], none) := by unfold rbytes; rw [hs]; rfl
    rw [he]
    rw [hs] at hV1
    exact ⟨_, _, [], Row.nil _ _, hV1, _, hS.empty⟩
  · skip
    refine W_skip ?_
    refine W_seq ?_
    refine W_region ?_
    refine O_move rfl rfl rfl ?_
    refine O_move rfl rfl rfl ?_
    have hcall := qraw_spec (n := ((rnum s).1 : Nat)) hS.own2 hV1 (rnum_left s hl)
    refine O_call rfl rfl rfl hcall (fun x w ⟨v2, b2, G2, hG2, hV2, Gs2, hk⟩ => ?_)
    have hS := hS.after2 hk
    refine O_assign rfl rfl rfl ?_
    refine O_end ?_
    refine W_ret ⟨_, rfl, ?_⟩
    exact ⟨_, _, G2, hG2, hV2, _, hS⟩

/-- What a Reader holds behind n numbers. -/
def rseq (s : RSt) : Nat → RSt
  | 0 => s
  | n + 1 => (rnum (rseq s n)).2
theorem rseq_left (s : RSt) (hl : s.left.length ≤ 1000000000) : ∀ n, (rseq s n).left.length ≤ 1000000000
  | 0 => hl
  | n + 1 => rnum_left _ (rseq_left s hl n)
theorem after4 {w0 w w' : World} {F : List Nat} {G1 G2 G3 G4 : List Chunk} {Gs C : List (List Chunk)} (h : St w0 F (G1 :: G2 :: G3 :: G4 :: Gs) w) (k : St w (idsOf [G1, G2, G3, G4]) C w') : St w0 F (C ++ Gs) w' := St.after (A := [G1, G2, G3, G4]) h k
theorem own4 {w0 w : World} {F : List Nat} {G1 G2 G3 G4 : List Chunk} {Gs : List (List Chunk)} (h : St w0 F (G1 :: G2 :: G3 :: G4 :: Gs) w) : Own [G1, G2, G3, G4] w := St.sub (A := [G1, G2, G3, G4]) (B := Gs) h
/-- The places that are given. -/
def place (p q : Nat) (j : Nat) : Option Addr := if j = 0 then some ⟨p, 0, none⟩ else if j = 1 then none else some ⟨q, 0, none⟩

end Go.Proofs.YtaglgnjamihdnaaDoor.R
