/- Any bytes, taken as somebody asks: the law's walk. -/
import Derived.Test.YtnbkeiekoncpnaaOq
namespace Go.Proofs.Ytnbkeiekoncpnaa.R
open Go Go.RowKit Go.Proofs
set_option linter.unusedVariables false
set_option linter.unusedSimpArgs false
set_option maxRecDepth 20000

section
variable {P : Program} {n : Nat} {ops rest : List Oper}
theorem O_neq_bool {P : Program} {n : Nat} {ops : Array Oper} {rest : List Oper} {σ : Env} {w : World} {Q : Post} {dst : Option Nat} {ty : TypeId} {pos : String} {after : Array Edge} {g : Option (Nat × Bool)} {t t' : TypeId} {x y : Operand} {a b : Bool} [hu : Und P t .bool] (hg : guardIs ops σ g = some true) (hd : dstOk n dst = true)
    (hx : opv σ x = some (.bool a)) (hy : opv σ y = some (.bool b))
    (h : O P n ops rest (upd σ dst (.bool (a != b))) w Q) : O P n ops (⟨dst, .binOp .neq t x y t', ty, pos, after, g⟩ :: rest) σ w Q :=
  O_value hg hd (fun ac ha => by
    have h1 : (do eqGuard .neq t x y (.bool a) (.bool b); binOp .neq t (.bool a) (.bool b)) = (do pure (.bool !(← Op.equal t (.bool a) (.bool b))) : Sem Value) := rfl
    have h2 : (Op.equal t (.bool a) (.bool b)).run P w = .ok (a == b) w := run_equalIn_bool hu.h a b w 9999
    simp only [execOp, ha.eval hx, ha.eval hy, h1, Sem.run_bind, h2, Result.andThen_ok, Sem.run_pure]
    rfl) h
end
theorem packed2 {w0 w : World} {F : List Nat} {A B : List Chunk} {Gs : List (List Chunk)} (h : St w0 F ([A, B] ++ Gs) w) : St w0 F [A, B, Gs.flatten] w := h.perm (by simp)
theorem packed3 {w0 w : World} {F : List Nat} {A B C : List Chunk} {Gs : List (List Chunk)} (h : St w0 F ([A, B, C] ++ Gs) w) : St w0 F [A, B, C, Gs.flatten] w := h.perm (by simp)
theorem eqself (x : Int) : evalBin .eql .i64 x x = some (.bool true) := by show some (Value.bool (x == x)) = _; simp
theorem neself (x : Int) : evalBin .neq .i64 x x = some (.bool false) := by show some (Value.bool (x != x)) = _; simp

set_option maxHeartbeats 4000000 in
theorem octetTakes_spec {w0 : World} {A B C : Option Addr} {raw : List UInt8} {ks ns : List Int} {c d e : Nat} (hr1 : Rd w0 A (bvs raw)) (hr2 : Rd w0 B (ks.map iv)) (hr3 : Rd w0 C (ns.map iv)) :
    Calls Try.prog 10 #[.slice A raw.length c, .slice B ks.length d, .slice C ns.length e] w0 (Ret fun r w => r = .bool true ∧ ∃ Gs, St w0 [] Gs w) := by
  have hS : Own [] w0 := St.start w0
  refine calls_enter (l := [.slice A raw.length c, .slice B ks.length d, .slice C ns.length e]) Try.func10 rfl Try.ntmps10 Try.results10 (Nat.le_of_ble_eq_true rfl) ?_
  refine W_seq ?_
  refine W_region ?_
  refine O_assign rfl rfl rfl ?_
  refine O_end ?_
  refine W_seq ?_
  refine W_seq ?_
  refine W_region ?_
  refine O_move rfl rfl rfl ?_
  refine O_len rfl rfl rfl rfl ?_
  refine O_bin rfl rfl rfl rfl rfl ?_
  refine O_move rfl rfl rfl ?_
  refine O_part 19 rfl (fun c19 => ?_) (fun c19 => ?_)
  · skip
    refine O_skip rfl rfl ?_
    refine O_skip rfl rfl ?_
    refine O_skip rfl rfl ?_
    first | refine O_pick_true rfl rfl rfl rfl ?_ | refine O_pick_false rfl rfl rfl rfl ?_
    refine O_move rfl rfl rfl ?_
    refine O_know 24 (.bool true) rfl (congrArg Value.bool (rfl)) ?_
    refine O_skip rfl rfl ?_
    refine O_skip rfl rfl ?_
    refine O_skip rfl rfl ?_
    refine O_skip rfl rfl ?_
    refine O_skip rfl rfl ?_
    first | refine O_pick_true rfl rfl rfl rfl ?_ | refine O_pick_false rfl rfl rfl rfl ?_
    refine O_end ?_
    refine W_if_true rfl (rfl) ?_
    refine W_seq ?_
    refine W_region ?_
    refine O_assign rfl rfl rfl ?_
    refine O_end ?_
    refine W_ret ⟨_, rfl, ?_⟩
    exact ⟨rfl, _, hS⟩
  · skip
    refine O_move rfl rfl rfl ?_
    refine O_len rfl rfl rfl rfl ?_
    refine O_bin rfl rfl rfl rfl rfl ?_
    first | refine O_pick_true rfl rfl rfl rfl ?_ | refine O_pick_false rfl rfl rfl rfl ?_
    refine O_move rfl rfl rfl ?_
    refine O_part 24 rfl (fun c24 => ?_) (fun c24 => ?_)
    · skip
      refine O_skip rfl rfl ?_
      refine O_skip rfl rfl ?_
      refine O_skip rfl rfl ?_
      refine O_skip rfl rfl ?_
      refine O_skip rfl rfl ?_
      first | refine O_pick_true rfl rfl rfl rfl ?_ | refine O_pick_false rfl rfl rfl rfl ?_
      refine O_end ?_
      refine W_if_true rfl (rfl) ?_
      refine W_seq ?_
      refine W_region ?_
      refine O_assign rfl rfl rfl ?_
      refine O_end ?_
      refine W_ret ⟨_, rfl, ?_⟩
      exact ⟨rfl, _, hS⟩
    · skip
      refine O_move rfl rfl rfl ?_
      refine O_len rfl rfl rfl rfl ?_
      refine O_move rfl rfl rfl ?_
      refine O_len rfl rfl rfl rfl ?_
      refine O_bin rfl rfl rfl rfl rfl ?_
      first | refine O_pick_true rfl rfl rfl rfl ?_ | refine O_pick_false rfl rfl rfl rfl ?_
      refine O_end ?_
      refine W_if rfl (fun c30 => ?_) (fun c30 => ?_)
      · skip
        refine W_seq ?_
        refine W_region ?_
        refine O_assign rfl rfl rfl ?_
        refine O_end ?_
        refine W_ret ⟨_, rfl, ?_⟩
        exact ⟨rfl, _, hS⟩
      · skip
        refine W_skip ?_
        refine W_seq ?_
        refine W_region ?_
        have hraw : raw.length ≤ 4000 := by have := of_decide_eq_false c19; omega
        have hks : ks.length ≤ 200 := by have := of_decide_eq_false c24; omega
        have hkn : ks.length ≤ ns.length := by have := of_decide_eq_false c30; omega
        refine O_move rfl rfl rfl ?_
        have hcall := roomy_spec (c := c) hr1 (by omega)
        refine O_call rfl rfl rfl hcall (fun r w ⟨G7, hG7, hk⟩ => ?_)
        have hS := hS.after0 hk
        obtain ⟨A7, c7, rfl, hc7, hc7m⟩ := hG7.form
        rw [List.length_append, List.length_singleton] at hc7
        refine O_assign rfl rfl rfl ?_
        refine O_end ?_
        refine W_seq ?_
        refine W_region ?_
        refine O_move rfl rfl rfl ?_
        refine O_move rfl rfl rfl ?_
        refine O_len rfl rfl rfl rfl ?_
        refine O_slice_to rfl rfl rfl rfl (by omega) ?_
        obtain ⟨_, _, hq, _, _, hn7, _⟩ := hG7.rd hS
        cases hq
        have hn8 : Rd w A7 (bvs raw) := by
          have := hn7.take raw.length
          rwa [← bvs_take, List.take_left] at this
        have hcall := newReader_spec (c := c7) hn8 (by omega)
        refine O_call rfl rfl rfl hcall (fun r w ⟨r1, v8, G8, hx, hV8, hk⟩ => ?_)
        subst hx
        have hS := hS.after0 hk
        refine O_assign rfl rfl rfl ?_
        refine O_end ?_
        refine W_seq ?_
        refine W_seq ?_
        refine W_region ?_
        refine O_move rfl rfl rfl ?_
        refine O_eql_ptr rfl rfl rfl ?_
        refine O_end ?_
        refine W_if_false rfl (rfl) ?_
        refine W_skip ?_
        refine W_seq ?_
        refine W_region ?_
        refine O_lit hS rfl rfl rfl rfl rfl rfl (Nat.le_of_ble_eq_true rfl) (fun b40 w hS => ?_)
        refine O_move rfl rfl rfl ?_
        refine O_append hS (Row.made (size := 1) (by simp [maxLen]) (Nat.zero_le _)) rfl rfl (by decide) rfl rfl rfl (news := bvs raw) (by simp) (hS.rd hr1 (Apart.of_nil _ _)) (bvs_one _) (by omega) (by unfold maxLen; omega) (fun v9 G9 w hG9 hS => ?_)
        have hG9' : BRow v9 raw G9 := by simpa [BRow] using hG9
        have hV9 : RView v9 false (some raw) G9 := ⟨rfl, View.ofRow hG9'⟩
        obtain ⟨A9, c9, rfl, hc9, _⟩ := hG9'.form
        refine O_build (c := #[.slice A9 raw.length c9, .bool false]) rfl rfl rfl (fun _ => by kernel_rfl) ?_
        refine O_box hS rfl rfl rfl (fun b44 w hS => ?_)
        refine O_assign rfl rfl rfl ?_
        refine O_end ?_
        refine W_seq ?_
        refine W_seq ?_
        refine W_region ?_
        refine O_assign rfl rfl rfl ?_
        refine O_end ?_
        refine W_block ?_
        refine W_loop (ι := Nat × RSt × Value × Bool × Value × Bool) (fun i => [(0, .slice A raw.length c), (1, .slice B ks.length d), (2, .slice C ns.length e), (7, .slice A7 (raw ++ [171]).length c7), (8, .pointer (some ⟨r1, 0, none⟩)), (9, .pointer (some ⟨b44, 0, none⟩)), (10, .int .i64 (i.1 : Nat))])
            (fun i w => i.1 ≤ ks.length ∧ RView i.2.2.1 i.2.2.2.1 i.2.1 G8 ∧ RView i.2.2.2.2.1 i.2.2.2.2.2 i.2.1 G9 ∧ i.2.1.left.length ≤ 1000000000 ∧ ∃ Gs, St w0 [] ([rcell r1 i.2.2.1 i.2.2.2.1, G8, qcell b44 i.2.2.2.2.1 i.2.2.2.2.2, G9, G7] ++ Gs) w) (fun i => ks.length - i.1)
            (0, some raw, v8, false, .slice A9 raw.length c9, false) ⟨rfl, rfl, rfl, rfl, rfl, rfl, rfl, trivial⟩ ⟨Nat.zero_le _, hV8, hV9, by show raw.length ≤ _; omega, [], hS.f3.f3⟩ ?_
        rintro ⟨i, s, v8, b8, v9, b9⟩ w ⟨hi, hV8, hV9, hl, Gs, hS⟩
        dsimp only at hi hV8 hV9 hl hS ⊢
        refine W_seq ?_
        refine W_seq ?_
        refine W_region ?_
        refine O_move rfl rfl rfl ?_
        refine O_move rfl rfl rfl ?_
        refine O_len rfl rfl rfl rfl ?_
        refine O_bin rfl rfl rfl rfl rfl ?_
        refine O_end ?_
        refine W_if rfl (fun c48 => ?_) (fun c48 => ?_)
        · skip
          refine W_skip ?_
          refine W_seq ?_
          refine W_block ?_
          refine W_seq ?_
          refine W_region ?_
          refine O_assign rfl rfl rfl ?_
          refine O_end ?_
          refine W_seq ?_
          refine W_seq ?_
          refine W_region ?_
          refine O_move rfl rfl rfl ?_
          refine O_move rfl rfl rfl ?_
          have hlt : i < ks.length := by have := of_decide_eq_true c48; omega
          refine O_indexRd rfl rfl rfl rfl (hS.rd hr2 (Apart.of_nil _ _)) (v := iv ks[i]) (by simp [hlt]) hlt (fun ad hA hc => ?_)
          refine O_load rfl rfl rfl rfl hc ?_
          refine O_end ?_
          refine W_block ?_
          refine W_seq ?_
          refine W_region ?_
          refine O_bin rfl rfl rfl rfl rfl ?_
          refine O_assign rfl rfl rfl ?_
          refine O_end ?_
          refine W_if rfl (fun c71 => ?_) (fun c71 => ?_)
          · skip
            refine W_region ?_
            refine O_move rfl rfl rfl ?_
            have hcall := rnum_spec hS.own2 hV8 hl
            refine O_call rfl rfl rfl hcall (fun r w ⟨hz, v8, b8, hV8, hk⟩ => ?_)
            subst hz
            have hS := (hS.after2 hk).f2.f3.f1
            refine O_move rfl rfl rfl ?_
            
            have hcalla := qnum_spec hS.own2 hV9 hl
            refine O_call rfl rfl rfl hcalla (fun z w ⟨hz, v9, b9, hV9, Gsa, hk⟩ => ?_)
            subst hz
            have hS := (hS.after2 (packed2 hk)).f2.drop
            have hS := hS.f3.f3
            refine O_bin rfl rfl rfl rfl rfl ?_
            refine O_know 77 (.bool true) rfl (congrArg Value.bool (beq_self_eq_true _)) ?_
            obtain ⟨s1, hs1⟩ : ∃ z : RSt, z = (rnum s).2 := ⟨_, rfl⟩
            rw [← hs1] at hV8 hV9
            have hl1 : s1.left.length ≤ 1000000000 := by rw [hs1]; exact rnum_left s hl
            refine O_assign rfl rfl rfl ?_
            refine O_end ?_
            refine W_seq ?_
            obtain ⟨A9, c9, rfl, _⟩ := hV9.2
            have hq0 : ∀ w, (∃ Gs, St w0 [] ([rcell r1 v8 b8, G8, qcell b44 (.slice A9 s1.left.length c9) b9, G9, G7] ++ Gs) w) → w.cell? ⟨b44, 0, none⟩ = some (.slice A9 s1.left.length c9) := fun w ⟨_, h⟩ => (St.f2 h).cell (off := 0) rfl
            have hq1 : ∀ w, (∃ Gs, St w0 [] ([rcell r1 v8 b8, G8, qcell b44 (.slice A9 s1.left.length c9) b9, G9, G7] ++ Gs) w) → w.cell? ⟨b44, 1, none⟩ = some (.bool b9) := fun w ⟨_, h⟩ => (St.f2 h).cell (off := 1) rfl
            refine W_drawn (fun w => ∃ Gs, St w0 [] ([rcell r1 v8 b8, G8, qcell b44 (.slice A9 s1.left.length c9) b9, G9, G7] ++ Gs) w) ?_
            have hS := hS.drew
            refine OA_take 0 rfl (by kernel_rfl) (by kernel_rfl) (by kernel_rfl) rfl rfl ⟨_, hS⟩ (fun w ⟨_, hS⟩ => E_move rfl) ?_
            refine OA_take 1 rfl (by kernel_rfl) (by kernel_rfl) (by kernel_rfl) rfl rfl ⟨_, hS⟩ (fun w ⟨_, hS⟩ => E_not rfl) ?_
            refine OA_take 2 rfl (by kernel_rfl) (by kernel_rfl) (by kernel_rfl) rfl rfl ⟨_, hS⟩ (fun w ⟨_, hS⟩ => E_move rfl) ?_
            refine OA_take 3 rfl (by kernel_rfl) (by kernel_rfl) (by kernel_rfl) rfl rfl ⟨_, hS⟩ (fun w ⟨_, hS⟩ => E_move rfl) ?_
            refine OA_take 5 rfl (by kernel_rfl) (by kernel_rfl) (by kernel_rfl) rfl rfl ⟨_, hS⟩ (fun w ⟨_, hS⟩ => E_move rfl) ?_
            refine OA_take 6 rfl (by kernel_rfl) (by kernel_rfl) (by kernel_rfl) rfl rfl ⟨_, hS⟩ (fun w ⟨_, hS⟩ => E_nilCheck rfl) ?_
            refine OA_take 7 rfl (by kernel_rfl) (by kernel_rfl) (by kernel_rfl) rfl rfl ⟨_, hS⟩ (fun w ⟨_, hS⟩ => E_fieldAddr rfl) ?_
            refine OA_take 8 rfl (by kernel_rfl) (by kernel_rfl) (by kernel_rfl) rfl rfl ⟨_, hS⟩ (fun w h => E_load rfl rfl (hq0 w h)) ?_
            refine OA_take 9 rfl (by kernel_rfl) (by kernel_rfl) (by kernel_rfl) rfl rfl ⟨_, hS⟩ (fun w ⟨_, hS⟩ => E_len rfl rfl) ?_
            refine OA_one 4 rfl (by kernel_rfl) ?_
            have hcall := left_spec hS.own2 hV8
            refine O_call rfl rfl rfl hcall (fun r w ⟨hz, hk⟩ => ?_)
            subst hz
            have hS := hS.after2 hk
            refine O_end ⟨⟨_, hS⟩, ?_⟩
            refine OA_take 10 rfl (by kernel_rfl) (by kernel_rfl) (by kernel_rfl) rfl rfl ⟨_, hS⟩ (fun w _ => E_bin (v := .bool false) rfl rfl (neself _)) ?_
            first | refine OA_take 11 rfl (by kernel_rfl) (by kernel_rfl) (by kernel_rfl) rfl rfl ⟨_, hS⟩ (fun w ⟨_, hS⟩ => E_pick_true rfl rfl) ?_ | refine OA_take 11 rfl (by kernel_rfl) (by kernel_rfl) (by kernel_rfl) rfl rfl ⟨_, hS⟩ (fun w ⟨_, hS⟩ => E_pick_false rfl rfl) ?_
            refine OA_take 12 rfl (by kernel_rfl) (by kernel_rfl) (by kernel_rfl) rfl rfl ⟨_, hS⟩ (fun w ⟨_, hS⟩ => E_move rfl) ?_
            refine OA_take 13 rfl (by kernel_rfl) (by kernel_rfl) (by kernel_rfl) rfl rfl ⟨_, hS⟩ (fun w ⟨_, hS⟩ => E_move rfl) ?_
            refine OA_take 15 rfl (by kernel_rfl) (by kernel_rfl) (by kernel_rfl) rfl rfl ⟨_, hS⟩ (fun w ⟨_, hS⟩ => E_move rfl) ?_
            refine OA_take 16 rfl (by kernel_rfl) (by kernel_rfl) (by kernel_rfl) rfl rfl ⟨_, hS⟩ (fun w ⟨_, hS⟩ => E_nilCheck rfl) ?_
            refine OA_take 17 rfl (by kernel_rfl) (by kernel_rfl) (by kernel_rfl) rfl rfl ⟨_, hS⟩ (fun w ⟨_, hS⟩ => E_fieldAddr rfl) ?_
            refine OA_take 18 rfl (by kernel_rfl) (by kernel_rfl) (by kernel_rfl) rfl rfl ⟨_, hS⟩ (fun w h => E_load rfl rfl (hq1 w h)) ?_
            refine OA_one 14 rfl (by kernel_rfl) ?_
            have hcall := good_spec hS.own2
            refine O_call rfl rfl rfl hcall (fun r w ⟨hz, hk⟩ => ?_)
            subst hz
            have hS := hS.after2 hk
            refine O_end ⟨⟨_, hS⟩, ?_⟩
            refine OA_one 19 rfl (by kernel_rfl) ?_
            refine O_eql_bool rfl rfl rfl rfl ?_
            refine O_know 128 (.bool false) rfl (congrArg Value.bool (by rw [hV8.1, hV9.1]; cases s1 <;> rfl)) ?_
            refine O_end ⟨⟨_, hS⟩, ?_⟩
            first | refine OA_take 20 rfl (by kernel_rfl) (by kernel_rfl) (by kernel_rfl) rfl rfl ⟨_, hS⟩ (fun w ⟨_, hS⟩ => E_pick_true rfl rfl) ?_ | refine OA_take 20 rfl (by kernel_rfl) (by kernel_rfl) (by kernel_rfl) rfl rfl ⟨_, hS⟩ (fun w ⟨_, hS⟩ => E_pick_false rfl rfl) ?_
            refine OA_take 21 rfl (by kernel_rfl) (by kernel_rfl) (by kernel_rfl) rfl rfl ⟨_, hS⟩ (fun w ⟨_, hS⟩ => E_move rfl) ?_
            refine OA_take 22 rfl (by kernel_rfl) (by kernel_rfl) (by kernel_rfl) rfl rfl ⟨_, hS⟩ (fun w ⟨_, hS⟩ => E_move rfl) ?_
            refine OA_take 24 rfl (by kernel_rfl) (by kernel_rfl) (by kernel_rfl) rfl rfl ⟨_, hS⟩ (fun w ⟨_, hS⟩ => E_move rfl) ?_
            refine OA_one 23 rfl (by kernel_rfl) ?_
            have hcall := whole_spec hS.own2 hV8
            refine O_call rfl rfl rfl hcall (fun r w ⟨hz, hk⟩ => ?_)
            subst hz
            have hS := hS.after2 hk
            refine O_end ⟨⟨_, hS⟩, ?_⟩
            refine OA_one 25 rfl (by kernel_rfl) ?_
            have hS := hS.f2.f3.f1
            have hcall := qwhole_spec hS.own2 hV9
            refine O_call rfl rfl rfl hcall (fun r w ⟨hz, hk⟩ => ?_)
            subst hz
            have hS := (hS.after2 hk).f3.f3
            refine O_end ⟨⟨_, hS⟩, ?_⟩
            refine OA_one 26 rfl (by kernel_rfl) ?_
            refine O_neq_bool rfl rfl rfl rfl ?_
            refine O_know 135 (.bool false) rfl (congrArg Value.bool (by simp)) ?_
            refine O_end ⟨⟨_, hS⟩, ?_⟩
            first | refine OA_take 27 rfl (by kernel_rfl) (by kernel_rfl) (by kernel_rfl) rfl rfl ⟨_, hS⟩ (fun w ⟨_, hS⟩ => E_pick_true rfl rfl) ?_ | refine OA_take 27 rfl (by kernel_rfl) (by kernel_rfl) (by kernel_rfl) rfl rfl ⟨_, hS⟩ (fun w ⟨_, hS⟩ => E_pick_false rfl rfl) ?_
            refine OA_end (by kernel_rfl) ?_
            refine W_if_false rfl (rfl) ?_
            refine W_skip ?_
            refine W_region ?_
            refine O_move rfl rfl rfl ?_
            refine O_bin rfl rfl rfl rfl (i64_succ i (by omega)) ?_
            refine O_assign rfl rfl rfl ?_
            refine O_end ?_
            exact ⟨(i + 1, s1, v8, b8, .slice A9 s1.left.length c9, b9), ⟨rfl, rfl, rfl, rfl, rfl, rfl, rfl, trivial⟩, ⟨hlt, hV8, hV9, hl1, _, hS⟩, by dsimp only; omega⟩
          · skip
            refine W_seq ?_
            refine W_region ?_
            refine O_bin rfl rfl rfl rfl rfl ?_
            refine O_assign rfl rfl rfl ?_
            refine O_end ?_
            refine W_if rfl (fun c78 => ?_) (fun c78 => ?_)
            · skip
              refine W_seq ?_
              refine W_region ?_
              refine O_move rfl rfl rfl ?_
              have hcall := rbytes_spec hS.own2 hV8 hl
              refine O_call rfl rfl rfl hcall (fun r w ⟨v8, b8, G12, hG12, hV8, hk⟩ => ?_)
              have hS := (hS.after2 hk).f3.f4.f1
              obtain ⟨A12, c12, rfl, _⟩ := hG12.form
              refine O_assign rfl rfl rfl ?_
              refine O_end ?_
              refine W_seq ?_
              refine W_region ?_
              refine O_move rfl rfl rfl ?_
              refine O_move rfl rfl rfl ?_
              have hcall := qbytes_spec hS.own2 hV9 hl
              refine O_call rfl rfl rfl hcall (fun r w ⟨v9, b9, G13, hG13, hV9, Gs13, hk⟩ => ?_)
              have hS := (hS.after2 (packed3 hk)).f3.drop
              obtain ⟨A13, c13, rfl, _⟩ := hG13.form
              obtain ⟨_, _, hq, _, _, hn13, _⟩ := hG13.rd hS
              cases hq
              have hS := hS.f3
              obtain ⟨_, _, hq, _, _, hn12, _⟩ := hG12.rd hS
              cases hq
              have hsm := same_spec (c := c12) (d := c13) hn12 hn13 (rbytes_left s hl).2
              refine O_call rfl rfl rfl hsm (fun r w ⟨hz, hk⟩ => ?_)
              subst hz
              have hS := hS.after0 hk
              refine O_know 85 (.bool true) rfl (congrArg Value.bool (decide_eq_true rfl)) ?_
              refine O_assign rfl rfl rfl ?_
              refine O_end ?_
              refine W_region ?_
              refine O_move rfl rfl rfl ?_
              have hcall := spoil_spec hS.own1 hG12 (rbytes_left s hl).2
              refine O_call rfl rfl rfl hcall (fun r w ⟨hz, G123, hk⟩ => ?_)
              have hS := (hS.after1 hk).drop.drop.f3.f3
              obtain ⟨s1, hs1⟩ : ∃ z : RSt, z = (rbytes s).2 := ⟨_, rfl⟩
              rw [← hs1] at hV8 hV9
              have hl1 : s1.left.length ≤ 1000000000 := by rw [hs1]; exact (rbytes_left s hl).1
              refine O_end ?_
              refine W_seq ?_
              obtain ⟨A9, c9, rfl, _⟩ := hV9.2
              have hq0 : ∀ w, (∃ Gs, St w0 [] ([rcell r1 v8 b8, G8, qcell b44 (.slice A9 s1.left.length c9) b9, G9, G7] ++ Gs) w) → w.cell? ⟨b44, 0, none⟩ = some (.slice A9 s1.left.length c9) := fun w ⟨_, h⟩ => (St.f2 h).cell (off := 0) rfl
              have hq1 : ∀ w, (∃ Gs, St w0 [] ([rcell r1 v8 b8, G8, qcell b44 (.slice A9 s1.left.length c9) b9, G9, G7] ++ Gs) w) → w.cell? ⟨b44, 1, none⟩ = some (.bool b9) := fun w ⟨_, h⟩ => (St.f2 h).cell (off := 1) rfl
              refine W_drawn (fun w => ∃ Gs, St w0 [] ([rcell r1 v8 b8, G8, qcell b44 (.slice A9 s1.left.length c9) b9, G9, G7] ++ Gs) w) ?_
              have hS := hS.drew
              refine OA_take 0 rfl (by kernel_rfl) (by kernel_rfl) (by kernel_rfl) rfl rfl ⟨_, hS⟩ (fun w ⟨_, hS⟩ => E_move rfl) ?_
              refine OA_take 1 rfl (by kernel_rfl) (by kernel_rfl) (by kernel_rfl) rfl rfl ⟨_, hS⟩ (fun w ⟨_, hS⟩ => E_not rfl) ?_
              refine OA_take 2 rfl (by kernel_rfl) (by kernel_rfl) (by kernel_rfl) rfl rfl ⟨_, hS⟩ (fun w ⟨_, hS⟩ => E_move rfl) ?_
              refine OA_take 3 rfl (by kernel_rfl) (by kernel_rfl) (by kernel_rfl) rfl rfl ⟨_, hS⟩ (fun w ⟨_, hS⟩ => E_move rfl) ?_
              refine OA_take 5 rfl (by kernel_rfl) (by kernel_rfl) (by kernel_rfl) rfl rfl ⟨_, hS⟩ (fun w ⟨_, hS⟩ => E_move rfl) ?_
              refine OA_take 6 rfl (by kernel_rfl) (by kernel_rfl) (by kernel_rfl) rfl rfl ⟨_, hS⟩ (fun w ⟨_, hS⟩ => E_nilCheck rfl) ?_
              refine OA_take 7 rfl (by kernel_rfl) (by kernel_rfl) (by kernel_rfl) rfl rfl ⟨_, hS⟩ (fun w ⟨_, hS⟩ => E_fieldAddr rfl) ?_
              refine OA_take 8 rfl (by kernel_rfl) (by kernel_rfl) (by kernel_rfl) rfl rfl ⟨_, hS⟩ (fun w h => E_load rfl rfl (hq0 w h)) ?_
              refine OA_take 9 rfl (by kernel_rfl) (by kernel_rfl) (by kernel_rfl) rfl rfl ⟨_, hS⟩ (fun w ⟨_, hS⟩ => E_len rfl rfl) ?_
              refine OA_one 4 rfl (by kernel_rfl) ?_
              have hcall := left_spec hS.own2 hV8
              refine O_call rfl rfl rfl hcall (fun r w ⟨hz, hk⟩ => ?_)
              subst hz
              have hS := hS.after2 hk
              refine O_end ⟨⟨_, hS⟩, ?_⟩
              refine OA_take 10 rfl (by kernel_rfl) (by kernel_rfl) (by kernel_rfl) rfl rfl ⟨_, hS⟩ (fun w _ => E_bin (v := .bool false) rfl rfl (neself _)) ?_
              first | refine OA_take 11 rfl (by kernel_rfl) (by kernel_rfl) (by kernel_rfl) rfl rfl ⟨_, hS⟩ (fun w ⟨_, hS⟩ => E_pick_true rfl rfl) ?_ | refine OA_take 11 rfl (by kernel_rfl) (by kernel_rfl) (by kernel_rfl) rfl rfl ⟨_, hS⟩ (fun w ⟨_, hS⟩ => E_pick_false rfl rfl) ?_
              refine OA_take 12 rfl (by kernel_rfl) (by kernel_rfl) (by kernel_rfl) rfl rfl ⟨_, hS⟩ (fun w ⟨_, hS⟩ => E_move rfl) ?_
              refine OA_take 13 rfl (by kernel_rfl) (by kernel_rfl) (by kernel_rfl) rfl rfl ⟨_, hS⟩ (fun w ⟨_, hS⟩ => E_move rfl) ?_
              refine OA_take 15 rfl (by kernel_rfl) (by kernel_rfl) (by kernel_rfl) rfl rfl ⟨_, hS⟩ (fun w ⟨_, hS⟩ => E_move rfl) ?_
              refine OA_take 16 rfl (by kernel_rfl) (by kernel_rfl) (by kernel_rfl) rfl rfl ⟨_, hS⟩ (fun w ⟨_, hS⟩ => E_nilCheck rfl) ?_
              refine OA_take 17 rfl (by kernel_rfl) (by kernel_rfl) (by kernel_rfl) rfl rfl ⟨_, hS⟩ (fun w ⟨_, hS⟩ => E_fieldAddr rfl) ?_
              refine OA_take 18 rfl (by kernel_rfl) (by kernel_rfl) (by kernel_rfl) rfl rfl ⟨_, hS⟩ (fun w h => E_load rfl rfl (hq1 w h)) ?_
              refine OA_one 14 rfl (by kernel_rfl) ?_
              have hcall := good_spec hS.own2
              refine O_call rfl rfl rfl hcall (fun r w ⟨hz, hk⟩ => ?_)
              subst hz
              have hS := hS.after2 hk
              refine O_end ⟨⟨_, hS⟩, ?_⟩
              refine OA_one 19 rfl (by kernel_rfl) ?_
              refine O_eql_bool rfl rfl rfl rfl ?_
              refine O_know 128 (.bool false) rfl (congrArg Value.bool (by rw [hV8.1, hV9.1]; cases s1 <;> rfl)) ?_
              refine O_end ⟨⟨_, hS⟩, ?_⟩
              first | refine OA_take 20 rfl (by kernel_rfl) (by kernel_rfl) (by kernel_rfl) rfl rfl ⟨_, hS⟩ (fun w ⟨_, hS⟩ => E_pick_true rfl rfl) ?_ | refine OA_take 20 rfl (by kernel_rfl) (by kernel_rfl) (by kernel_rfl) rfl rfl ⟨_, hS⟩ (fun w ⟨_, hS⟩ => E_pick_false rfl rfl) ?_
              refine OA_take 21 rfl (by kernel_rfl) (by kernel_rfl) (by kernel_rfl) rfl rfl ⟨_, hS⟩ (fun w ⟨_, hS⟩ => E_move rfl) ?_
              refine OA_take 22 rfl (by kernel_rfl) (by kernel_rfl) (by kernel_rfl) rfl rfl ⟨_, hS⟩ (fun w ⟨_, hS⟩ => E_move rfl) ?_
              refine OA_take 24 rfl (by kernel_rfl) (by kernel_rfl) (by kernel_rfl) rfl rfl ⟨_, hS⟩ (fun w ⟨_, hS⟩ => E_move rfl) ?_
              refine OA_one 23 rfl (by kernel_rfl) ?_
              have hcall := whole_spec hS.own2 hV8
              refine O_call rfl rfl rfl hcall (fun r w ⟨hz, hk⟩ => ?_)
              subst hz
              have hS := hS.after2 hk
              refine O_end ⟨⟨_, hS⟩, ?_⟩
              refine OA_one 25 rfl (by kernel_rfl) ?_
              have hS := hS.f2.f3.f1
              have hcall := qwhole_spec hS.own2 hV9
              refine O_call rfl rfl rfl hcall (fun r w ⟨hz, hk⟩ => ?_)
              subst hz
              have hS := (hS.after2 hk).f3.f3
              refine O_end ⟨⟨_, hS⟩, ?_⟩
              refine OA_one 26 rfl (by kernel_rfl) ?_
              refine O_neq_bool rfl rfl rfl rfl ?_
              refine O_know 135 (.bool false) rfl (congrArg Value.bool (by simp)) ?_
              refine O_end ⟨⟨_, hS⟩, ?_⟩
              first | refine OA_take 27 rfl (by kernel_rfl) (by kernel_rfl) (by kernel_rfl) rfl rfl ⟨_, hS⟩ (fun w ⟨_, hS⟩ => E_pick_true rfl rfl) ?_ | refine OA_take 27 rfl (by kernel_rfl) (by kernel_rfl) (by kernel_rfl) rfl rfl ⟨_, hS⟩ (fun w ⟨_, hS⟩ => E_pick_false rfl rfl) ?_
              refine OA_end (by kernel_rfl) ?_
              refine W_if_false rfl (rfl) ?_
              refine W_skip ?_
              refine W_region ?_
              refine O_move rfl rfl rfl ?_
              refine O_bin rfl rfl rfl rfl (i64_succ i (by omega)) ?_
              refine O_assign rfl rfl rfl ?_
              refine O_end ?_
              exact ⟨(i + 1, s1, v8, b8, .slice A9 s1.left.length c9, b9), ⟨rfl, rfl, rfl, rfl, rfl, rfl, rfl, trivial⟩, ⟨hlt, hV8, hV9, hl1, _, hS⟩, by dsimp only; omega⟩
            · skip
              refine W_seq ?_
              refine W_region ?_
              refine O_bin rfl rfl rfl rfl rfl ?_
              refine O_assign rfl rfl rfl ?_
              refine O_end ?_
              refine W_if rfl (fun c88 => ?_) (fun c88 => ?_)
              · skip
                refine W_drawn (fun w => ∃ Gs, St w0 [] Gs w) ?_
                have hS := hS.drew
                refine OA_take 0 rfl (by kernel_rfl) (by kernel_rfl) (by kernel_rfl) rfl rfl ⟨_, hS⟩ (fun w ⟨_, hS⟩ => E_move rfl) ?_
                refine OA_take 1 rfl (by kernel_rfl) (by kernel_rfl) (by kernel_rfl) rfl rfl ⟨_, hS⟩ (fun w ⟨_, hS⟩ => E_move rfl) ?_
                refine OA_take 2 rfl (by kernel_rfl) (by kernel_rfl) (by kernel_rfl) rfl rfl ⟨_, hS⟩ (fun w ⟨_, hS⟩ => E_move rfl) ?_
                have hlt3 : i < ns.length := by omega
                obtain ⟨ad, rfl, _⟩ := hr3 i (iv ns[i]) (by simp [hlt3])
                refine OA_take 3 rfl (by kernel_rfl) (by kernel_rfl) (by kernel_rfl) rfl rfl ⟨_, hS⟩ (fun w ⟨_, hS⟩ => E_indexAddr rfl rfl (by omega) (by omega)) ?_
                refine OA_take 4 rfl (by kernel_rfl) (by kernel_rfl) (by kernel_rfl) rfl rfl ⟨_, hS⟩ (fun w ⟨_, hS⟩ => E_load rfl rfl (by simpa using (hS.rd hr3 (Apart.of_nil _ _)).cell (j := i) (v := iv ns[i]) (by simp [hlt3]))) ?_
                refine OA_take 6 rfl (by kernel_rfl) (by kernel_rfl) (by kernel_rfl) rfl rfl ⟨_, hS⟩ (fun w ⟨_, hS⟩ => E_move rfl) ?_
                refine OA_take 7 rfl (by kernel_rfl) (by kernel_rfl) (by kernel_rfl) rfl rfl ⟨_, hS⟩ (fun w ⟨_, hS⟩ => E_move rfl) ?_
                refine OA_take 8 rfl (by kernel_rfl) (by kernel_rfl) (by kernel_rfl) rfl rfl ⟨_, hS⟩ (fun w ⟨_, hS⟩ => E_move rfl) ?_
                refine OA_take 9 rfl (by kernel_rfl) (by kernel_rfl) (by kernel_rfl) rfl rfl ⟨_, hS⟩ (fun w ⟨_, hS⟩ => E_indexAddr rfl rfl (by omega) (by omega)) ?_
                refine OA_take 10 rfl (by kernel_rfl) (by kernel_rfl) (by kernel_rfl) rfl rfl ⟨_, hS⟩ (fun w ⟨_, hS⟩ => E_load rfl rfl (by simpa using (hS.rd hr3 (Apart.of_nil _ _)).cell (j := i) (v := iv ns[i]) (by simp [hlt3]))) ?_
                refine OA_one 5 rfl (by kernel_rfl) ?_
                have hcall := rraw_spec (n := ns[i]) hS.own2 hV8 hl
                refine O_call rfl rfl rfl hcall (fun r w ⟨v8, b8, G12, hG12, hV8, hk⟩ => ?_)
                have hS := (hS.after2 hk).f3.f4.f1
                obtain ⟨A12, c12, rfl, _⟩ := hG12.form
                refine O_end ⟨⟨_, hS⟩, ?_⟩
                refine OA_one 11 rfl (by kernel_rfl) ?_
                have hcall := qraw_spec (n := ns[i]) hS.own2 hV9 hl
                refine O_call rfl rfl rfl hcall (fun r w ⟨v9, b9, G13, hG13, hV9, Gs13, hk⟩ => ?_)
                have hS := (hS.after2 (packed3 hk)).f3.drop
                obtain ⟨A13, c13, rfl, _⟩ := hG13.form
                refine O_end ⟨⟨_, hS⟩, ?_⟩
                refine OA_one 12 rfl (by kernel_rfl) ?_
                obtain ⟨_, _, hq, _, _, hn13, _⟩ := hG13.rd hS
                cases hq
                have hS := hS.f3
                obtain ⟨_, _, hq, _, _, hn12, _⟩ := hG12.rd hS
                cases hq
                have hsm := same_spec (c := c12) (d := c13) hn12 hn13 (rraw_left s _ hl).2
                refine O_call rfl rfl rfl hsm (fun r w ⟨hz, hk⟩ => ?_)
                subst hz
                have hS := hS.after0 hk
                refine O_know 102 (.bool true) rfl (congrArg Value.bool (decide_eq_true rfl)) ?_
                refine O_end ⟨⟨_, hS⟩, ?_⟩
                refine OA_take 13 rfl (by kernel_rfl) (by kernel_rfl) (by kernel_rfl) rfl rfl ⟨_, hS⟩ (fun w ⟨_, hS⟩ => E_assign rfl) ?_
                refine OA_end (by kernel_rfl) ?_
                have hS := hS.drop.drop.f3.f3
                obtain ⟨s1, hs1⟩ : ∃ z : RSt, z = (rraw s ns[i]).2 := ⟨_, rfl⟩
                rw [← hs1] at hV8 hV9
                have hl1 : s1.left.length ≤ 1000000000 := by rw [hs1]; exact (rraw_left s _ hl).1
                refine W_seq ?_
                obtain ⟨A9, c9, rfl, _⟩ := hV9.2
                have hq0 : ∀ w, (∃ Gs, St w0 [] ([rcell r1 v8 b8, G8, qcell b44 (.slice A9 s1.left.length c9) b9, G9, G7] ++ Gs) w) → w.cell? ⟨b44, 0, none⟩ = some (.slice A9 s1.left.length c9) := fun w ⟨_, h⟩ => (St.f2 h).cell (off := 0) rfl
                have hq1 : ∀ w, (∃ Gs, St w0 [] ([rcell r1 v8 b8, G8, qcell b44 (.slice A9 s1.left.length c9) b9, G9, G7] ++ Gs) w) → w.cell? ⟨b44, 1, none⟩ = some (.bool b9) := fun w ⟨_, h⟩ => (St.f2 h).cell (off := 1) rfl
                refine W_drawn (fun w => ∃ Gs, St w0 [] ([rcell r1 v8 b8, G8, qcell b44 (.slice A9 s1.left.length c9) b9, G9, G7] ++ Gs) w) ?_
                have hS := hS.drew
                refine OA_take 0 rfl (by kernel_rfl) (by kernel_rfl) (by kernel_rfl) rfl rfl ⟨_, hS⟩ (fun w ⟨_, hS⟩ => E_move rfl) ?_
                refine OA_take 1 rfl (by kernel_rfl) (by kernel_rfl) (by kernel_rfl) rfl rfl ⟨_, hS⟩ (fun w ⟨_, hS⟩ => E_not rfl) ?_
                refine OA_take 2 rfl (by kernel_rfl) (by kernel_rfl) (by kernel_rfl) rfl rfl ⟨_, hS⟩ (fun w ⟨_, hS⟩ => E_move rfl) ?_
                refine OA_take 3 rfl (by kernel_rfl) (by kernel_rfl) (by kernel_rfl) rfl rfl ⟨_, hS⟩ (fun w ⟨_, hS⟩ => E_move rfl) ?_
                refine OA_take 5 rfl (by kernel_rfl) (by kernel_rfl) (by kernel_rfl) rfl rfl ⟨_, hS⟩ (fun w ⟨_, hS⟩ => E_move rfl) ?_
                refine OA_take 6 rfl (by kernel_rfl) (by kernel_rfl) (by kernel_rfl) rfl rfl ⟨_, hS⟩ (fun w ⟨_, hS⟩ => E_nilCheck rfl) ?_
                refine OA_take 7 rfl (by kernel_rfl) (by kernel_rfl) (by kernel_rfl) rfl rfl ⟨_, hS⟩ (fun w ⟨_, hS⟩ => E_fieldAddr rfl) ?_
                refine OA_take 8 rfl (by kernel_rfl) (by kernel_rfl) (by kernel_rfl) rfl rfl ⟨_, hS⟩ (fun w h => E_load rfl rfl (hq0 w h)) ?_
                refine OA_take 9 rfl (by kernel_rfl) (by kernel_rfl) (by kernel_rfl) rfl rfl ⟨_, hS⟩ (fun w ⟨_, hS⟩ => E_len rfl rfl) ?_
                refine OA_one 4 rfl (by kernel_rfl) ?_
                have hcall := left_spec hS.own2 hV8
                refine O_call rfl rfl rfl hcall (fun r w ⟨hz, hk⟩ => ?_)
                subst hz
                have hS := hS.after2 hk
                refine O_end ⟨⟨_, hS⟩, ?_⟩
                refine OA_take 10 rfl (by kernel_rfl) (by kernel_rfl) (by kernel_rfl) rfl rfl ⟨_, hS⟩ (fun w _ => E_bin (v := .bool false) rfl rfl (neself _)) ?_
                first | refine OA_take 11 rfl (by kernel_rfl) (by kernel_rfl) (by kernel_rfl) rfl rfl ⟨_, hS⟩ (fun w ⟨_, hS⟩ => E_pick_true rfl rfl) ?_ | refine OA_take 11 rfl (by kernel_rfl) (by kernel_rfl) (by kernel_rfl) rfl rfl ⟨_, hS⟩ (fun w ⟨_, hS⟩ => E_pick_false rfl rfl) ?_
                refine OA_take 12 rfl (by kernel_rfl) (by kernel_rfl) (by kernel_rfl) rfl rfl ⟨_, hS⟩ (fun w ⟨_, hS⟩ => E_move rfl) ?_
                refine OA_take 13 rfl (by kernel_rfl) (by kernel_rfl) (by kernel_rfl) rfl rfl ⟨_, hS⟩ (fun w ⟨_, hS⟩ => E_move rfl) ?_
                refine OA_take 15 rfl (by kernel_rfl) (by kernel_rfl) (by kernel_rfl) rfl rfl ⟨_, hS⟩ (fun w ⟨_, hS⟩ => E_move rfl) ?_
                refine OA_take 16 rfl (by kernel_rfl) (by kernel_rfl) (by kernel_rfl) rfl rfl ⟨_, hS⟩ (fun w ⟨_, hS⟩ => E_nilCheck rfl) ?_
                refine OA_take 17 rfl (by kernel_rfl) (by kernel_rfl) (by kernel_rfl) rfl rfl ⟨_, hS⟩ (fun w ⟨_, hS⟩ => E_fieldAddr rfl) ?_
                refine OA_take 18 rfl (by kernel_rfl) (by kernel_rfl) (by kernel_rfl) rfl rfl ⟨_, hS⟩ (fun w h => E_load rfl rfl (hq1 w h)) ?_
                refine OA_one 14 rfl (by kernel_rfl) ?_
                have hcall := good_spec hS.own2
                refine O_call rfl rfl rfl hcall (fun r w ⟨hz, hk⟩ => ?_)
                subst hz
                have hS := hS.after2 hk
                refine O_end ⟨⟨_, hS⟩, ?_⟩
                refine OA_one 19 rfl (by kernel_rfl) ?_
                refine O_eql_bool rfl rfl rfl rfl ?_
                refine O_know 128 (.bool false) rfl (congrArg Value.bool (by rw [hV8.1, hV9.1]; cases s1 <;> rfl)) ?_
                refine O_end ⟨⟨_, hS⟩, ?_⟩
                first | refine OA_take 20 rfl (by kernel_rfl) (by kernel_rfl) (by kernel_rfl) rfl rfl ⟨_, hS⟩ (fun w ⟨_, hS⟩ => E_pick_true rfl rfl) ?_ | refine OA_take 20 rfl (by kernel_rfl) (by kernel_rfl) (by kernel_rfl) rfl rfl ⟨_, hS⟩ (fun w ⟨_, hS⟩ => E_pick_false rfl rfl) ?_
                refine OA_take 21 rfl (by kernel_rfl) (by kernel_rfl) (by kernel_rfl) rfl rfl ⟨_, hS⟩ (fun w ⟨_, hS⟩ => E_move rfl) ?_
                refine OA_take 22 rfl (by kernel_rfl) (by kernel_rfl) (by kernel_rfl) rfl rfl ⟨_, hS⟩ (fun w ⟨_, hS⟩ => E_move rfl) ?_
                refine OA_take 24 rfl (by kernel_rfl) (by kernel_rfl) (by kernel_rfl) rfl rfl ⟨_, hS⟩ (fun w ⟨_, hS⟩ => E_move rfl) ?_
                refine OA_one 23 rfl (by kernel_rfl) ?_
                have hcall := whole_spec hS.own2 hV8
                refine O_call rfl rfl rfl hcall (fun r w ⟨hz, hk⟩ => ?_)
                subst hz
                have hS := hS.after2 hk
                refine O_end ⟨⟨_, hS⟩, ?_⟩
                refine OA_one 25 rfl (by kernel_rfl) ?_
                have hS := hS.f2.f3.f1
                have hcall := qwhole_spec hS.own2 hV9
                refine O_call rfl rfl rfl hcall (fun r w ⟨hz, hk⟩ => ?_)
                subst hz
                have hS := (hS.after2 hk).f3.f3
                refine O_end ⟨⟨_, hS⟩, ?_⟩
                refine OA_one 26 rfl (by kernel_rfl) ?_
                refine O_neq_bool rfl rfl rfl rfl ?_
                refine O_know 135 (.bool false) rfl (congrArg Value.bool (by simp)) ?_
                refine O_end ⟨⟨_, hS⟩, ?_⟩
                first | refine OA_take 27 rfl (by kernel_rfl) (by kernel_rfl) (by kernel_rfl) rfl rfl ⟨_, hS⟩ (fun w ⟨_, hS⟩ => E_pick_true rfl rfl) ?_ | refine OA_take 27 rfl (by kernel_rfl) (by kernel_rfl) (by kernel_rfl) rfl rfl ⟨_, hS⟩ (fun w ⟨_, hS⟩ => E_pick_false rfl rfl) ?_
                refine OA_end (by kernel_rfl) ?_
                refine W_if_false rfl (rfl) ?_
                refine W_skip ?_
                refine W_region ?_
                refine O_move rfl rfl rfl ?_
                refine O_bin rfl rfl rfl rfl (i64_succ i (by omega)) ?_
                refine O_assign rfl rfl rfl ?_
                refine O_end ?_
                exact ⟨(i + 1, s1, v8, b8, .slice A9 s1.left.length c9, b9), ⟨rfl, rfl, rfl, rfl, rfl, rfl, rfl, trivial⟩, ⟨hlt, hV8, hV9, hl1, _, hS⟩, by dsimp only; omega⟩
              · skip
                refine W_seq ?_
                refine W_region ?_
                refine O_bin rfl rfl rfl rfl rfl ?_
                refine O_assign rfl rfl rfl ?_
                refine O_end ?_
                refine W_if rfl (fun c103 => ?_) (fun c103 => ?_)
                · skip
                  refine W_seq ?_
                  refine W_region ?_
                  refine O_move rfl rfl rfl ?_
                  have hcall := bad_spec hS.own2
                  refine O_call rfl rfl rfl hcall (fun r w ⟨hz, hk⟩ => ?_)
                  have hS := (hS.after2 hk).f2.f3.f1
                  obtain ⟨v8, hv8⟩ : ∃ z, z = Value.slice none 0 0 := ⟨_, rfl⟩
                  obtain ⟨b8, hb8⟩ : ∃ z, z = true := ⟨_, rfl⟩
                  rw [← hv8, ← hb8] at hS
                  have hV8 : RView v8 b8 none G8 := by rw [hv8, hb8]; exact RView.bad G8
                  refine O_end ?_
                  refine W_seq ?_
                  refine W_region ?_
                  refine O_move rfl rfl rfl ?_
                  have hcall := qbad_spec hS.own2
                  refine O_call rfl rfl rfl hcall (fun r w ⟨hz, hk⟩ => ?_)
                  have hS := (hS.after2 hk).f3.f3
                  obtain ⟨v9, hv9⟩ : ∃ z, z = Value.slice none 0 0 := ⟨_, rfl⟩
                  obtain ⟨b9, hb9⟩ : ∃ z, z = true := ⟨_, rfl⟩
                  have hV9 : RView v9 b9 none G9 := by rw [hv9, hb9]; exact RView.bad G9
                  rw [← hv9, ← hb9] at hS
                  refine O_end ?_
                  refine W_region ?_
                  refine O_assign rfl rfl rfl ?_
                  skip
                  obtain ⟨s1, hs1⟩ : ∃ z : RSt, z = (none : RSt) := ⟨_, rfl⟩
                  rw [← hs1] at hV8 hV9
                  have hl1 : s1.left.length ≤ 1000000000 := by rw [hs1]; exact (by simp [RSt.left])
                  refine O_end ?_
                  refine W_seq ?_
                  obtain ⟨A9, c9, rfl, _⟩ := hV9.2
                  have hq0 : ∀ w, (∃ Gs, St w0 [] ([rcell r1 v8 b8, G8, qcell b44 (.slice A9 s1.left.length c9) b9, G9, G7] ++ Gs) w) → w.cell? ⟨b44, 0, none⟩ = some (.slice A9 s1.left.length c9) := fun w ⟨_, h⟩ => (St.f2 h).cell (off := 0) rfl
                  have hq1 : ∀ w, (∃ Gs, St w0 [] ([rcell r1 v8 b8, G8, qcell b44 (.slice A9 s1.left.length c9) b9, G9, G7] ++ Gs) w) → w.cell? ⟨b44, 1, none⟩ = some (.bool b9) := fun w ⟨_, h⟩ => (St.f2 h).cell (off := 1) rfl
                  refine W_drawn (fun w => ∃ Gs, St w0 [] ([rcell r1 v8 b8, G8, qcell b44 (.slice A9 s1.left.length c9) b9, G9, G7] ++ Gs) w) ?_
                  have hS := hS.drew
                  refine OA_take 0 rfl (by kernel_rfl) (by kernel_rfl) (by kernel_rfl) rfl rfl ⟨_, hS⟩ (fun w ⟨_, hS⟩ => E_move rfl) ?_
                  refine OA_take 1 rfl (by kernel_rfl) (by kernel_rfl) (by kernel_rfl) rfl rfl ⟨_, hS⟩ (fun w ⟨_, hS⟩ => E_not rfl) ?_
                  refine OA_take 2 rfl (by kernel_rfl) (by kernel_rfl) (by kernel_rfl) rfl rfl ⟨_, hS⟩ (fun w ⟨_, hS⟩ => E_move rfl) ?_
                  refine OA_take 3 rfl (by kernel_rfl) (by kernel_rfl) (by kernel_rfl) rfl rfl ⟨_, hS⟩ (fun w ⟨_, hS⟩ => E_move rfl) ?_
                  refine OA_take 5 rfl (by kernel_rfl) (by kernel_rfl) (by kernel_rfl) rfl rfl ⟨_, hS⟩ (fun w ⟨_, hS⟩ => E_move rfl) ?_
                  refine OA_take 6 rfl (by kernel_rfl) (by kernel_rfl) (by kernel_rfl) rfl rfl ⟨_, hS⟩ (fun w ⟨_, hS⟩ => E_nilCheck rfl) ?_
                  refine OA_take 7 rfl (by kernel_rfl) (by kernel_rfl) (by kernel_rfl) rfl rfl ⟨_, hS⟩ (fun w ⟨_, hS⟩ => E_fieldAddr rfl) ?_
                  refine OA_take 8 rfl (by kernel_rfl) (by kernel_rfl) (by kernel_rfl) rfl rfl ⟨_, hS⟩ (fun w h => E_load rfl rfl (hq0 w h)) ?_
                  refine OA_take 9 rfl (by kernel_rfl) (by kernel_rfl) (by kernel_rfl) rfl rfl ⟨_, hS⟩ (fun w ⟨_, hS⟩ => E_len rfl rfl) ?_
                  refine OA_one 4 rfl (by kernel_rfl) ?_
                  have hcall := left_spec hS.own2 hV8
                  refine O_call rfl rfl rfl hcall (fun r w ⟨hz, hk⟩ => ?_)
                  subst hz
                  have hS := hS.after2 hk
                  refine O_end ⟨⟨_, hS⟩, ?_⟩
                  refine OA_take 10 rfl (by kernel_rfl) (by kernel_rfl) (by kernel_rfl) rfl rfl ⟨_, hS⟩ (fun w _ => E_bin (v := .bool false) rfl rfl (neself _)) ?_
                  first | refine OA_take 11 rfl (by kernel_rfl) (by kernel_rfl) (by kernel_rfl) rfl rfl ⟨_, hS⟩ (fun w ⟨_, hS⟩ => E_pick_true rfl rfl) ?_ | refine OA_take 11 rfl (by kernel_rfl) (by kernel_rfl) (by kernel_rfl) rfl rfl ⟨_, hS⟩ (fun w ⟨_, hS⟩ => E_pick_false rfl rfl) ?_
                  refine OA_take 12 rfl (by kernel_rfl) (by kernel_rfl) (by kernel_rfl) rfl rfl ⟨_, hS⟩ (fun w ⟨_, hS⟩ => E_move rfl) ?_
                  refine OA_take 13 rfl (by kernel_rfl) (by kernel_rfl) (by kernel_rfl) rfl rfl ⟨_, hS⟩ (fun w ⟨_, hS⟩ => E_move rfl) ?_
                  refine OA_take 15 rfl (by kernel_rfl) (by kernel_rfl) (by kernel_rfl) rfl rfl ⟨_, hS⟩ (fun w ⟨_, hS⟩ => E_move rfl) ?_
                  refine OA_take 16 rfl (by kernel_rfl) (by kernel_rfl) (by kernel_rfl) rfl rfl ⟨_, hS⟩ (fun w ⟨_, hS⟩ => E_nilCheck rfl) ?_
                  refine OA_take 17 rfl (by kernel_rfl) (by kernel_rfl) (by kernel_rfl) rfl rfl ⟨_, hS⟩ (fun w ⟨_, hS⟩ => E_fieldAddr rfl) ?_
                  refine OA_take 18 rfl (by kernel_rfl) (by kernel_rfl) (by kernel_rfl) rfl rfl ⟨_, hS⟩ (fun w h => E_load rfl rfl (hq1 w h)) ?_
                  refine OA_one 14 rfl (by kernel_rfl) ?_
                  have hcall := good_spec hS.own2
                  refine O_call rfl rfl rfl hcall (fun r w ⟨hz, hk⟩ => ?_)
                  subst hz
                  have hS := hS.after2 hk
                  refine O_end ⟨⟨_, hS⟩, ?_⟩
                  refine OA_one 19 rfl (by kernel_rfl) ?_
                  refine O_eql_bool rfl rfl rfl rfl ?_
                  refine O_know 128 (.bool false) rfl (congrArg Value.bool (by rw [hV8.1, hV9.1]; cases s1 <;> rfl)) ?_
                  refine O_end ⟨⟨_, hS⟩, ?_⟩
                  first | refine OA_take 20 rfl (by kernel_rfl) (by kernel_rfl) (by kernel_rfl) rfl rfl ⟨_, hS⟩ (fun w ⟨_, hS⟩ => E_pick_true rfl rfl) ?_ | refine OA_take 20 rfl (by kernel_rfl) (by kernel_rfl) (by kernel_rfl) rfl rfl ⟨_, hS⟩ (fun w ⟨_, hS⟩ => E_pick_false rfl rfl) ?_
                  refine OA_take 21 rfl (by kernel_rfl) (by kernel_rfl) (by kernel_rfl) rfl rfl ⟨_, hS⟩ (fun w ⟨_, hS⟩ => E_move rfl) ?_
                  refine OA_take 22 rfl (by kernel_rfl) (by kernel_rfl) (by kernel_rfl) rfl rfl ⟨_, hS⟩ (fun w ⟨_, hS⟩ => E_move rfl) ?_
                  refine OA_take 24 rfl (by kernel_rfl) (by kernel_rfl) (by kernel_rfl) rfl rfl ⟨_, hS⟩ (fun w ⟨_, hS⟩ => E_move rfl) ?_
                  refine OA_one 23 rfl (by kernel_rfl) ?_
                  have hcall := whole_spec hS.own2 hV8
                  refine O_call rfl rfl rfl hcall (fun r w ⟨hz, hk⟩ => ?_)
                  subst hz
                  have hS := hS.after2 hk
                  refine O_end ⟨⟨_, hS⟩, ?_⟩
                  refine OA_one 25 rfl (by kernel_rfl) ?_
                  have hS := hS.f2.f3.f1
                  have hcall := qwhole_spec hS.own2 hV9
                  refine O_call rfl rfl rfl hcall (fun r w ⟨hz, hk⟩ => ?_)
                  subst hz
                  have hS := (hS.after2 hk).f3.f3
                  refine O_end ⟨⟨_, hS⟩, ?_⟩
                  refine OA_one 26 rfl (by kernel_rfl) ?_
                  refine O_neq_bool rfl rfl rfl rfl ?_
                  refine O_know 135 (.bool false) rfl (congrArg Value.bool (by simp)) ?_
                  refine O_end ⟨⟨_, hS⟩, ?_⟩
                  first | refine OA_take 27 rfl (by kernel_rfl) (by kernel_rfl) (by kernel_rfl) rfl rfl ⟨_, hS⟩ (fun w ⟨_, hS⟩ => E_pick_true rfl rfl) ?_ | refine OA_take 27 rfl (by kernel_rfl) (by kernel_rfl) (by kernel_rfl) rfl rfl ⟨_, hS⟩ (fun w ⟨_, hS⟩ => E_pick_false rfl rfl) ?_
                  refine OA_end (by kernel_rfl) ?_
                  refine W_if_false rfl (rfl) ?_
                  refine W_skip ?_
                  refine W_region ?_
                  refine O_move rfl rfl rfl ?_
                  refine O_bin rfl rfl rfl rfl (i64_succ i (by omega)) ?_
                  refine O_assign rfl rfl rfl ?_
                  refine O_end ?_
                  exact ⟨(i + 1, s1, v8, b8, .slice A9 s1.left.length c9, b9), ⟨rfl, rfl, rfl, rfl, rfl, rfl, rfl, trivial⟩, ⟨hlt, hV8, hV9, hl1, _, hS⟩, by dsimp only; omega⟩
                · skip
                  refine W_seq ?_
                  refine W_region ?_
                  refine O_alloc hS rfl rfl (fun b13 w hS => ?_)
                  refine O_alloc hS rfl rfl (fun b14 w hS => ?_)
                  refine O_store hS.f1 rfl rfl rfl rfl (Nat.le_of_ble_eq_true rfl) (fun w hS => ?_)
                  refine O_store hS.f1 rfl rfl rfl rfl (Nat.le_of_ble_eq_true rfl) (fun w hS => ?_)
                  refine O_end ?_
                  refine W_seq ?_
                  refine W_region ?_
                  have hS : St w0 [] (pcell b14 7 :: pcell b13 7 :: _) w := hS
                  refine O_move rfl rfl rfl ?_
                  refine O_lit hS rfl rfl rfl rfl rfl rfl (Nat.le_of_ble_eq_true rfl) (fun b56 w hS => ?_)
                  have hn56 := hS.rdAll
                  have ha56 := hS.apart_first (off := 0) (sp := none) (vs := [.pointer (some ⟨b13, 0, none⟩), .pointer none, .pointer (some ⟨b14, 0, none⟩)])
                  have hS := hS.f1.f2.f4.f4
                  have hcall := Nums3_spec (c := 3) (own4 hS) hV8 hl hn56 (ha56.sub (ids_sub (by simp)))
                  refine O_call rfl rfl rfl hcall (fun z w ⟨hz, v8, b8, hV8, hk⟩ => ?_)
                  have hS := after4 hS hk
                  refine O_end ?_
                  refine W_seq ?_
                  refine W_region ?_
                  refine O_move rfl rfl rfl ?_
                  have hS := hS.f4.drop.f4.f5.f1
                  have hcalla := qnum_spec hS.own2 hV9 hl
                  refine O_call rfl rfl rfl hcalla (fun z w ⟨hz, v9, b9, hV9, Gsa, hk⟩ => ?_)
                  subst hz
                  have hS := (hS.after2 (packed2 hk)).f2.drop
                  skip
                  refine O_assign rfl rfl rfl ?_
                  refine O_end ?_
                  refine W_seq ?_
                  refine W_region ?_
                  refine O_move rfl rfl rfl ?_
                  
                  have hcallb := qnum_spec hS.own2 hV9 (rnum_left s hl)
                  refine O_call rfl rfl rfl hcallb (fun z w ⟨hz, v9, b9, hV9, Gsb, hk⟩ => ?_)
                  subst hz
                  have hS := (hS.after2 (packed2 hk)).f2.drop
                  skip
                  refine O_end ?_
                  refine W_drawn (fun w => ∃ Gs, St w0 [] ([pcell b13 ((rnum s).1 : Nat), pcell b14 ((rnum (rseq s 2)).1 : Nat)] ++ Gs) w) ?_
                  have hS := hS.drew.f4.f5.f1
                  refine OA_take 0 rfl (by kernel_rfl) (by kernel_rfl) (by kernel_rfl) rfl rfl ⟨_, hS⟩ (fun w ⟨_, hS⟩ => E_load rfl rfl (hS.cell rfl)) ?_
                  refine OA_take 1 rfl (by kernel_rfl) (by kernel_rfl) (by kernel_rfl) rfl rfl ⟨_, hS⟩ (fun w ⟨_, hS⟩ => E_move rfl) ?_
                  refine OA_take 2 rfl (by kernel_rfl) (by kernel_rfl) (by kernel_rfl) rfl rfl ⟨_, hS⟩ (fun w _ => E_bin (v := .bool true) rfl rfl (eqself _)) ?_
                  refine OA_take 3 rfl (by kernel_rfl) (by kernel_rfl) (by kernel_rfl) rfl rfl ⟨_, hS⟩ (fun w ⟨_, hS⟩ => E_move rfl) ?_
                  refine OA_take 4 rfl (by kernel_rfl) (by kernel_rfl) (by kernel_rfl) rfl rfl ⟨_, hS⟩ (fun w ⟨_, hS⟩ => E_load rfl rfl (hS.f1.cell rfl)) ?_
                  refine OA_take 5 rfl (by kernel_rfl) (by kernel_rfl) (by kernel_rfl) rfl rfl ⟨_, hS⟩ (fun w ⟨_, hS⟩ => E_move rfl) ?_
                  refine OA_one 6 rfl (by kernel_rfl) ?_
                  have hS := hS.f2.f3.f1
                  have hcallc := qnum_spec hS.own2 hV9 (rseq_left s hl 2)
                  refine O_call rfl rfl rfl hcallc (fun z w ⟨hz, v9, b9, hV9, Gsc, hk⟩ => ?_)
                  subst hz
                  have hS := (hS.after2 (packed2 hk)).f2.drop
                  have hS := hS.f3.f3
                  refine O_end ⟨⟨_, hS⟩, ?_⟩
                  refine OA_take 7 rfl (by kernel_rfl) (by kernel_rfl) (by kernel_rfl) rfl rfl ⟨_, hS⟩ (fun w _ => E_bin (v := .bool true) rfl rfl (eqself _)) ?_
                  first | refine OA_take 8 rfl (by kernel_rfl) (by kernel_rfl) (by kernel_rfl) rfl rfl ⟨_, hS⟩ (fun w ⟨_, hS⟩ => E_pick_true rfl rfl) ?_ | refine OA_take 8 rfl (by kernel_rfl) (by kernel_rfl) (by kernel_rfl) rfl rfl ⟨_, hS⟩ (fun w ⟨_, hS⟩ => E_pick_false rfl rfl) ?_
                  refine OA_take 9 rfl (by kernel_rfl) (by kernel_rfl) (by kernel_rfl) rfl rfl ⟨_, hS⟩ (fun w ⟨_, hS⟩ => E_assign rfl) ?_
                  refine OA_end (by kernel_rfl) ?_
                  have hS := hS.drop.drop.f3.f3
                  change RView v9 b9 (rseq s 3) G9 at hV9
                  obtain ⟨s1, hs1⟩ : ∃ z : RSt, z = rseq s 3 := ⟨_, rfl⟩
                  rw [← hs1] at hV8 hV9
                  have hl1 : s1.left.length ≤ 1000000000 := by rw [hs1]; exact rseq_left s hl 3
                  refine W_seq ?_
                  obtain ⟨A9, c9, rfl, _⟩ := hV9.2
                  have hq0 : ∀ w, (∃ Gs, St w0 [] ([rcell r1 v8 b8, G8, qcell b44 (.slice A9 s1.left.length c9) b9, G9, G7] ++ Gs) w) → w.cell? ⟨b44, 0, none⟩ = some (.slice A9 s1.left.length c9) := fun w ⟨_, h⟩ => (St.f2 h).cell (off := 0) rfl
                  have hq1 : ∀ w, (∃ Gs, St w0 [] ([rcell r1 v8 b8, G8, qcell b44 (.slice A9 s1.left.length c9) b9, G9, G7] ++ Gs) w) → w.cell? ⟨b44, 1, none⟩ = some (.bool b9) := fun w ⟨_, h⟩ => (St.f2 h).cell (off := 1) rfl
                  refine W_drawn (fun w => ∃ Gs, St w0 [] ([rcell r1 v8 b8, G8, qcell b44 (.slice A9 s1.left.length c9) b9, G9, G7] ++ Gs) w) ?_
                  have hS := hS.drew
                  refine OA_take 0 rfl (by kernel_rfl) (by kernel_rfl) (by kernel_rfl) rfl rfl ⟨_, hS⟩ (fun w ⟨_, hS⟩ => E_move rfl) ?_
                  refine OA_take 1 rfl (by kernel_rfl) (by kernel_rfl) (by kernel_rfl) rfl rfl ⟨_, hS⟩ (fun w ⟨_, hS⟩ => E_not rfl) ?_
                  refine OA_take 2 rfl (by kernel_rfl) (by kernel_rfl) (by kernel_rfl) rfl rfl ⟨_, hS⟩ (fun w ⟨_, hS⟩ => E_move rfl) ?_
                  refine OA_take 3 rfl (by kernel_rfl) (by kernel_rfl) (by kernel_rfl) rfl rfl ⟨_, hS⟩ (fun w ⟨_, hS⟩ => E_move rfl) ?_
                  refine OA_take 5 rfl (by kernel_rfl) (by kernel_rfl) (by kernel_rfl) rfl rfl ⟨_, hS⟩ (fun w ⟨_, hS⟩ => E_move rfl) ?_
                  refine OA_take 6 rfl (by kernel_rfl) (by kernel_rfl) (by kernel_rfl) rfl rfl ⟨_, hS⟩ (fun w ⟨_, hS⟩ => E_nilCheck rfl) ?_
                  refine OA_take 7 rfl (by kernel_rfl) (by kernel_rfl) (by kernel_rfl) rfl rfl ⟨_, hS⟩ (fun w ⟨_, hS⟩ => E_fieldAddr rfl) ?_
                  refine OA_take 8 rfl (by kernel_rfl) (by kernel_rfl) (by kernel_rfl) rfl rfl ⟨_, hS⟩ (fun w h => E_load rfl rfl (hq0 w h)) ?_
                  refine OA_take 9 rfl (by kernel_rfl) (by kernel_rfl) (by kernel_rfl) rfl rfl ⟨_, hS⟩ (fun w ⟨_, hS⟩ => E_len rfl rfl) ?_
                  refine OA_one 4 rfl (by kernel_rfl) ?_
                  have hcall := left_spec hS.own2 hV8
                  refine O_call rfl rfl rfl hcall (fun r w ⟨hz, hk⟩ => ?_)
                  subst hz
                  have hS := hS.after2 hk
                  refine O_end ⟨⟨_, hS⟩, ?_⟩
                  refine OA_take 10 rfl (by kernel_rfl) (by kernel_rfl) (by kernel_rfl) rfl rfl ⟨_, hS⟩ (fun w _ => E_bin (v := .bool false) rfl rfl (neself _)) ?_
                  first | refine OA_take 11 rfl (by kernel_rfl) (by kernel_rfl) (by kernel_rfl) rfl rfl ⟨_, hS⟩ (fun w ⟨_, hS⟩ => E_pick_true rfl rfl) ?_ | refine OA_take 11 rfl (by kernel_rfl) (by kernel_rfl) (by kernel_rfl) rfl rfl ⟨_, hS⟩ (fun w ⟨_, hS⟩ => E_pick_false rfl rfl) ?_
                  refine OA_take 12 rfl (by kernel_rfl) (by kernel_rfl) (by kernel_rfl) rfl rfl ⟨_, hS⟩ (fun w ⟨_, hS⟩ => E_move rfl) ?_
                  refine OA_take 13 rfl (by kernel_rfl) (by kernel_rfl) (by kernel_rfl) rfl rfl ⟨_, hS⟩ (fun w ⟨_, hS⟩ => E_move rfl) ?_
                  refine OA_take 15 rfl (by kernel_rfl) (by kernel_rfl) (by kernel_rfl) rfl rfl ⟨_, hS⟩ (fun w ⟨_, hS⟩ => E_move rfl) ?_
                  refine OA_take 16 rfl (by kernel_rfl) (by kernel_rfl) (by kernel_rfl) rfl rfl ⟨_, hS⟩ (fun w ⟨_, hS⟩ => E_nilCheck rfl) ?_
                  refine OA_take 17 rfl (by kernel_rfl) (by kernel_rfl) (by kernel_rfl) rfl rfl ⟨_, hS⟩ (fun w ⟨_, hS⟩ => E_fieldAddr rfl) ?_
                  refine OA_take 18 rfl (by kernel_rfl) (by kernel_rfl) (by kernel_rfl) rfl rfl ⟨_, hS⟩ (fun w h => E_load rfl rfl (hq1 w h)) ?_
                  refine OA_one 14 rfl (by kernel_rfl) ?_
                  have hcall := good_spec hS.own2
                  refine O_call rfl rfl rfl hcall (fun r w ⟨hz, hk⟩ => ?_)
                  subst hz
                  have hS := hS.after2 hk
                  refine O_end ⟨⟨_, hS⟩, ?_⟩
                  refine OA_one 19 rfl (by kernel_rfl) ?_
                  refine O_eql_bool rfl rfl rfl rfl ?_
                  refine O_know 128 (.bool false) rfl (congrArg Value.bool (by rw [hV8.1, hV9.1]; cases s1 <;> rfl)) ?_
                  refine O_end ⟨⟨_, hS⟩, ?_⟩
                  first | refine OA_take 20 rfl (by kernel_rfl) (by kernel_rfl) (by kernel_rfl) rfl rfl ⟨_, hS⟩ (fun w ⟨_, hS⟩ => E_pick_true rfl rfl) ?_ | refine OA_take 20 rfl (by kernel_rfl) (by kernel_rfl) (by kernel_rfl) rfl rfl ⟨_, hS⟩ (fun w ⟨_, hS⟩ => E_pick_false rfl rfl) ?_
                  refine OA_take 21 rfl (by kernel_rfl) (by kernel_rfl) (by kernel_rfl) rfl rfl ⟨_, hS⟩ (fun w ⟨_, hS⟩ => E_move rfl) ?_
                  refine OA_take 22 rfl (by kernel_rfl) (by kernel_rfl) (by kernel_rfl) rfl rfl ⟨_, hS⟩ (fun w ⟨_, hS⟩ => E_move rfl) ?_
                  refine OA_take 24 rfl (by kernel_rfl) (by kernel_rfl) (by kernel_rfl) rfl rfl ⟨_, hS⟩ (fun w ⟨_, hS⟩ => E_move rfl) ?_
                  refine OA_one 23 rfl (by kernel_rfl) ?_
                  have hcall := whole_spec hS.own2 hV8
                  refine O_call rfl rfl rfl hcall (fun r w ⟨hz, hk⟩ => ?_)
                  subst hz
                  have hS := hS.after2 hk
                  refine O_end ⟨⟨_, hS⟩, ?_⟩
                  refine OA_one 25 rfl (by kernel_rfl) ?_
                  have hS := hS.f2.f3.f1
                  have hcall := qwhole_spec hS.own2 hV9
                  refine O_call rfl rfl rfl hcall (fun r w ⟨hz, hk⟩ => ?_)
                  subst hz
                  have hS := (hS.after2 hk).f3.f3
                  refine O_end ⟨⟨_, hS⟩, ?_⟩
                  refine OA_one 26 rfl (by kernel_rfl) ?_
                  refine O_neq_bool rfl rfl rfl rfl ?_
                  refine O_know 135 (.bool false) rfl (congrArg Value.bool (by simp)) ?_
                  refine O_end ⟨⟨_, hS⟩, ?_⟩
                  first | refine OA_take 27 rfl (by kernel_rfl) (by kernel_rfl) (by kernel_rfl) rfl rfl ⟨_, hS⟩ (fun w ⟨_, hS⟩ => E_pick_true rfl rfl) ?_ | refine OA_take 27 rfl (by kernel_rfl) (by kernel_rfl) (by kernel_rfl) rfl rfl ⟨_, hS⟩ (fun w ⟨_, hS⟩ => E_pick_false rfl rfl) ?_
                  refine OA_end (by kernel_rfl) ?_
                  refine W_if_false rfl (rfl) ?_
                  refine W_skip ?_
                  refine W_region ?_
                  refine O_move rfl rfl rfl ?_
                  refine O_bin rfl rfl rfl rfl (i64_succ i (by omega)) ?_
                  refine O_assign rfl rfl rfl ?_
                  refine O_end ?_
                  exact ⟨(i + 1, s1, v8, b8, .slice A9 s1.left.length c9, b9), ⟨rfl, rfl, rfl, rfl, rfl, rfl, rfl, trivial⟩, ⟨hlt, hV8, hV9, hl1, _, hS⟩, by dsimp only; omega⟩
        · skip
          refine W_exit ?_
          refine W_seq ?_
          refine W_region ?_
          refine O_move rfl rfl rfl ?_
          refine O_move rfl rfl rfl ?_
          have hS := hS.f4
          obtain ⟨_, _, hq, _, _, hn7, _⟩ := hG7.rd hS
          cases hq
          have hcall := stands_spec (c := c7) (d := c) hn7 (hS.rd hr1 (Apart.of_nil _ _)) (by rw [List.length_append, List.length_singleton]; omega) (by omega) (by rw [List.length_append, List.length_singleton]; omega)
          refine O_call rfl rfl rfl hcall (fun r w ⟨hr, hk⟩ => ?_)
          subst hr
          have hS := (hS.after0 hk).f1.f2.f1
          have hst : decide (raw ++ [171] = raw ++ [171]) = true := by simp
          refine O_move rfl rfl rfl ?_
          refine O_know 140 (.bool true) rfl (congrArg Value.bool (hst)) ?_
          refine O_move rfl rfl rfl ?_
          have hcall := whole_spec hS.own2 hV8
          refine O_call rfl rfl rfl hcall (fun r w ⟨hz, hk⟩ => ?_)
          subst hz
          have hS := (hS.after2 hk).f3.f4.f1
          refine O_move rfl rfl rfl ?_
          have hcall := qwhole_spec hS.own2 hV9
          refine O_call rfl rfl rfl hcall (fun r w ⟨hz, hk⟩ => ?_)
          subst hz
          have hS := hS.after2 hk
          refine O_eql_bool rfl rfl rfl rfl ?_
          refine O_know 145 (.bool true) rfl (congrArg Value.bool (by simp)) ?_
          first | refine O_pick_true rfl rfl rfl rfl ?_ | refine O_pick_false rfl rfl rfl rfl ?_
          refine O_move rfl rfl rfl ?_
          refine O_know 147 (.bool true) rfl (congrArg Value.bool (rfl)) ?_
          have hcall := known_spec (w0 := w)
          refine O_call rfl rfl rfl hcall (fun r w ⟨hz, hk⟩ => ?_)
          subst hz
          have hS := hS.after0 hk
          first | refine O_pick_true rfl rfl rfl rfl ?_ | refine O_pick_false rfl rfl rfl rfl ?_
          refine O_assign rfl rfl rfl ?_
          refine O_end ?_
          refine W_ret ⟨_, rfl, ?_⟩
          exact ⟨rfl, _, hS⟩

end Go.Proofs.Ytnbkeiekoncpnaa.R
