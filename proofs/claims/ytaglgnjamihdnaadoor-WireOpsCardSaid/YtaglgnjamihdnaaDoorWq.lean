/- What the document's own functions say of an operation's bytes. -/
import Derived.Test.YtaglgnjamihdnaaDoorWp
namespace Go.Proofs.YtaglgnjamihdnaaDoor.R
open Go Go.RowKit Go.Proofs
set_option linter.unusedVariables false
set_option linter.unusedSimpArgs false
set_option maxRecDepth 20000

theorem packed2 {w0 w : World} {F : List Nat} {A B : List Chunk} {Gs : List (List Chunk)} (h : St w0 F ([A, B] ++ Gs) w) : St w0 F [A, B, Gs.flatten] w := h.perm (by simp)
theorem packed3 {w0 w : World} {F : List Nat} {A B C : List Chunk} {Gs : List (List Chunk)} (h : St w0 F ([A, B, C] ++ Gs) w) : St w0 F [A, B, C, Gs.flatten] w := h.perm (by simp)
/-- The block in which bytes lie that came in, as a group. -/
theorem adopt {w : World} {A : Option Addr} {bs : List UInt8} {c : Nat} (hr : Rd w A (bvs bs)) (hc : bs.length ≤ c) (hm : c ≤ maxLen) : ∃ G, Own [G] w ∧ View (.slice A bs.length c) bs G ∧ ∀ x ∈ G, w.heap[x.1]? = some x.2 := by
  cases bs with
  | nil =>
    refine ⟨[], (St.start w).empty, ⟨A, c, rfl, hc, hm, fun _ _ _ _ _ => ⟨Rd.nil _ _, fun h => (h rfl).elim⟩⟩, by simp⟩
  | cons y r =>
    obtain ⟨a, rfl, hcell⟩ := hr 0 (bv y) rfl
    have hlt : a.block < w.heap.size := by
      have := World.block_lt_of_cell? w _ hcell
      simpa using this
    obtain ⟨o, ho⟩ : ∃ o, w.heap[a.block]? = some o := ⟨_, Array.getElem?_eq_getElem hlt⟩
    refine ⟨[(a.block, o)], ⟨rfl, rfl, rfl, Nat.le_refl _, fun _ _ _ => rfl, ?_, by simp [idsOf], fun b hb => .inl hb⟩, ⟨some a, c, rfl, hc, hm, fun w1 w2 F Gs hS => ⟨fun i v hv => ?_, fun _ a' ha' hin => ?_⟩⟩, ?_⟩
    · intro x hx
      simp at hx
      subst hx
      exact ho
    · obtain ⟨b, hb, hcb⟩ := hr i v hv
      cases hb
      refine ⟨a, rfl, ?_⟩
      rw [World.cell?_of_block (w := w)]
      · exact hcb
      · rw [add_block, hS.here (a.block, o) (by simp), ho]
    · cases ha'
      have := hS.nodup
      rw [ids_cons] at this
      exact (List.nodup_append.1 this).2.2 a.block (by simp [idsOf]) a.block hin rfl
    · intro x hx
      simp at hx
      subst hx
      exact ho
/-- And given back as it was. -/
theorem St.unadopt {w0 w : World} {G : List Chunk} {Gs : List (List Chunk)} (h : St w0 (idsOf [G]) (G :: Gs) w) (hG : ∀ x ∈ G, w0.heap[x.1]? = some x.2) : St w0 [] Gs w := by
  have h1 := h.drop
  refine ⟨h.os, h.tape, h.output, h.size, fun k hk _ => ?_, h1.here, h1.nodup, fun b hb => ?_⟩
  · by_cases hin : k ∈ idsOf [G]
    · obtain ⟨o, ho⟩ := mem_idsOf.1 hin
      have ho' : (k, o) ∈ G := by simpa using ho
      rw [hG _ ho', h.here (k, o) (by simp [ho'])]
    · exact h.keep k hk hin
  · rcases h1.own b hb with hin | hge
    · have := h.nodup
      rw [ids_cons] at this
      exact ((List.nodup_append.1 this).2.2 b hin b hb rfl).elim
    · exact .inr hge

set_option maxHeartbeats 400000 in
theorem refEncodeOp_spec {w0 : World} {o : Opr} (hl : o.nm.length ≤ 9223372036854775807) : Calls Tryd.prog 10 #[.agg o.cs.toArray] w0 (Ret fun r w => ∃ v G, r = .tuple #[v, .int .i64 (if opok o then 0 else 1)] ∧ BRow v (if opok o then opb o else []) G ∧ St w0 [] [G] w) := by
  have hS : Own [] w0 := St.start w0
  refine calls_enter (l := [.agg o.cs.toArray]) Tryd.func10 rfl Tryd.ntmps10 Tryd.results10 (Nat.le_of_ble_eq_true rfl) ?_
  refine W_seq ?_
  refine W_region ?_
  refine O_box hS rfl rfl rfl (fun b1 w hS => ?_)
  refine O_assign rfl rfl rfl ?_
  refine O_assign rfl rfl rfl ?_
  refine O_end ?_
  refine W_seq ?_
  refine W_seq ?_
  refine W_region ?_
  refine O_loadAgg (vs := o.cs) rfl rfl rfl rfl rfl hS.rdAll ?_
  have hcall := IsOp_spec (w0 := w) (o := o) hl
  refine O_call rfl rfl rfl hcall (fun r w ⟨hz, hk⟩ => ?_)
  subst hz
  have hS := hS.after0 hk
  refine O_not rfl rfl rfl ?_
  refine O_end ?_
  refine W_if rfl (fun c7 => ?_) (fun c7 => ?_)
  · skip
    refine W_seq ?_
    refine W_region ?_
    refine O_assign rfl rfl rfl ?_
    refine O_assign rfl rfl rfl ?_
    refine O_end ?_
    refine W_ret ⟨_, rfl, ?_⟩
    have hm : opok o = false := by simpa using c7
    rw [hm]
    exact ⟨_, [], rfl, Row.nil _ _, hS.bare.empty⟩
  · skip
    refine W_skip ?_
    refine W_cut (fun σ w => opok o = true ∧ ∃ v1 R1, sub σ [(1, .pointer (some ⟨b1, 0, none⟩)), (4, v1)] ∧ BRow v1 (encs [2, o.k, o.c, o.s] ++ encRow o.nm) R1 ∧ St w0 [] [ocell b1 o, R1] w) ?_ ?_
    · skip
      have hm : opok o = true := by simpa using c7
      have hl8 := opok_len hm
      have hl3 := encs_len [2, o.k, o.c, o.s]
      have hl4 := encs_len [o.p, o.e, o.t, o.q]
      have her := encRow_len o.nm (by omega)
      simp only [List.length_cons, List.length_nil] at hl3 hl4
      refine W_drawn (fun w => ∃ Gs, St w0 [] ([ocell b1 o] ++ Gs) w) ?_
      have hS := hS.drew
      refine OA_take 0 rfl (by kernel_rfl) (by kernel_rfl) (by kernel_rfl) rfl rfl ⟨_, hS⟩ (fun w ⟨_, hS⟩ => E_fieldAddr rfl) ?_
      refine OA_take 1 rfl (by kernel_rfl) (by kernel_rfl) (by kernel_rfl) rfl rfl ⟨_, hS⟩ (fun w ⟨_, hS⟩ => E_load rfl rfl (St.cell hS o.c0)) ?_
      refine OA_take 2 rfl (by kernel_rfl) (by kernel_rfl) (by kernel_rfl) rfl rfl ⟨_, hS⟩ (fun w ⟨_, hS⟩ => E_fieldAddr rfl) ?_
      refine OA_take 3 rfl (by kernel_rfl) (by kernel_rfl) (by kernel_rfl) rfl rfl ⟨_, hS⟩ (fun w ⟨_, hS⟩ => E_load rfl rfl (St.cell hS o.c1)) ?_
      refine OA_take 4 rfl (by kernel_rfl) (by kernel_rfl) (by kernel_rfl) rfl rfl ⟨_, hS⟩ (fun w ⟨_, hS⟩ => E_fieldAddr rfl) ?_
      refine OA_take 5 rfl (by kernel_rfl) (by kernel_rfl) (by kernel_rfl) rfl rfl ⟨_, hS⟩ (fun w ⟨_, hS⟩ => E_load rfl rfl (St.cell hS o.c2)) ?_
      refine OA_take 8 rfl (by kernel_rfl) (by kernel_rfl) (by kernel_rfl) rfl rfl ⟨_, hS⟩ (fun w ⟨_, hS⟩ => E_fieldAddr rfl) ?_
      refine OA_take 9 rfl (by kernel_rfl) (by kernel_rfl) (by kernel_rfl) rfl rfl ⟨_, hS⟩ (fun w ⟨_, hS⟩ => E_load rfl rfl (St.cell hS o.c3)) ?_
      refine OA_two 6 10 rfl rfl (by kernel_rfl) ?_ ?_
      · skip
        refine O_lit hS rfl rfl rfl rfl rfl rfl (Nat.le_of_ble_eq_true rfl) (fun b14 w hS => ?_)
        have hS := hS.f1
        refine O_end ⟨⟨_, hS⟩, ?_⟩
        refine OA_two 7 10 rfl rfl (by kernel_rfl) ?_ ?_
        · skip
          have hn := hS.f1.rdAll
          have hcall := refNums_spec (ns := [2, o.k, o.c, o.s]) (c := 4) hn (by simp)
          refine O_call rfl rfl rfl hcall (fun r w ⟨G, hG, hk⟩ => ?_)
          have hS := hS.after0 hk
          obtain ⟨AG, cG, rfl, _⟩ := hG.form
          have hR := hG
          have hS := hS.f1
          refine O_end ⟨⟨_, hS⟩, ?_⟩
          refine OA_one 10 rfl (by kernel_rfl) ?_
          refine O_bytes hS rfl rfl rfl (fun b18 cs18 c18 w hcs hS => ?_)
          have hS := hS.f3.f3.f3
          refine O_end ⟨⟨_, hS⟩, ?_⟩
          refine OA_one 11 rfl (by kernel_rfl) ?_
          have hn18 := hS.f3.rdCells hcs
          have hcall := refBytes_spec (c := c18) hn18 (by omega)
          refine O_call rfl rfl rfl hcall (fun r w ⟨G2, hG2, hk⟩ => ?_)
          have hS := hS.after0 hk
          obtain ⟨AG2, cG2, rfl, _⟩ := hG2.form
          have hS := hS.f1
          refine O_end ⟨⟨_, hS⟩, ?_⟩
          refine OA_one 12 rfl (by kernel_rfl) ?_
          have hnG2 := own_bytes2 hG2 hS.f1
          have hS := hS.f2
          refine O_append hS hR rfl rfl (by decide) rfl rfl rfl (news := bvs (encRow o.nm)) (by simp) hnG2 (bvs_one _) (by (try simp only [List.length_append]); omega) (by (try simp only [List.length_append]); unfold maxLen; omega) (fun v1 R1 w hR hS => ?_)
          have hR := brow_append hR rfl
          have hS := hS.f1
          refine O_end ⟨⟨_, hS⟩, ?_⟩
          refine OA_take 13 rfl (by kernel_rfl) (by kernel_rfl) (by kernel_rfl) rfl rfl ⟨_, hS⟩ (fun w ⟨_, hS⟩ => E_assign rfl) ?_
          refine OA_end (by kernel_rfl) ?_
          have hS := hS.keep2
          exact ⟨hm, _, _, ⟨rfl, rfl, trivial⟩, hR, hS⟩
        · skip
          refine O_bytes hS rfl rfl rfl (fun b18 cs18 c18 w hcs hS => ?_)
          have hS := hS.f1.f2.f1
          refine O_end ⟨⟨_, hS⟩, ?_⟩
          refine OA_one 7 rfl (by kernel_rfl) ?_
          have hn := hS.f1.rdAll
          have hcall := refNums_spec (ns := [2, o.k, o.c, o.s]) (c := 4) hn (by simp)
          refine O_call rfl rfl rfl hcall (fun r w ⟨G, hG, hk⟩ => ?_)
          have hS := hS.after0 hk
          obtain ⟨AG, cG, rfl, _⟩ := hG.form
          have hR := hG
          have hS := hS.f1
          refine O_end ⟨⟨_, hS⟩, ?_⟩
          refine OA_one 11 rfl (by kernel_rfl) ?_
          have hn18 := hS.f3.rdCells hcs
          have hcall := refBytes_spec (c := c18) hn18 (by omega)
          refine O_call rfl rfl rfl hcall (fun r w ⟨G2, hG2, hk⟩ => ?_)
          have hS := hS.after0 hk
          obtain ⟨AG2, cG2, rfl, _⟩ := hG2.form
          have hS := hS.f1
          refine O_end ⟨⟨_, hS⟩, ?_⟩
          refine OA_one 12 rfl (by kernel_rfl) ?_
          have hnG2 := own_bytes2 hG2 hS.f1
          have hS := hS.f2
          refine O_append hS hR rfl rfl (by decide) rfl rfl rfl (news := bvs (encRow o.nm)) (by simp) hnG2 (bvs_one _) (by (try simp only [List.length_append]); omega) (by (try simp only [List.length_append]); unfold maxLen; omega) (fun v1 R1 w hR hS => ?_)
          have hR := brow_append hR rfl
          have hS := hS.f1
          refine O_end ⟨⟨_, hS⟩, ?_⟩
          refine OA_take 13 rfl (by kernel_rfl) (by kernel_rfl) (by kernel_rfl) rfl rfl ⟨_, hS⟩ (fun w ⟨_, hS⟩ => E_assign rfl) ?_
          refine OA_end (by kernel_rfl) ?_
          have hS := hS.keep2
          exact ⟨hm, _, _, ⟨rfl, rfl, trivial⟩, hR, hS⟩
      · skip
        refine O_bytes hS rfl rfl rfl (fun b18 cs18 c18 w hcs hS => ?_)
        have hS := hS.f1
        refine O_end ⟨⟨_, hS⟩, ?_⟩
        refine OA_one 6 rfl (by kernel_rfl) ?_
        refine O_lit hS rfl rfl rfl rfl rfl rfl (Nat.le_of_ble_eq_true rfl) (fun b14 w hS => ?_)
        have hS := hS.f1
        refine O_end ⟨⟨_, hS⟩, ?_⟩
        refine OA_one 7 rfl (by kernel_rfl) ?_
        have hn := hS.f1.rdAll
        have hcall := refNums_spec (ns := [2, o.k, o.c, o.s]) (c := 4) hn (by simp)
        refine O_call rfl rfl rfl hcall (fun r w ⟨G, hG, hk⟩ => ?_)
        have hS := hS.after0 hk
        obtain ⟨AG, cG, rfl, _⟩ := hG.form
        have hR := hG
        have hS := hS.f1
        refine O_end ⟨⟨_, hS⟩, ?_⟩
        refine OA_one 11 rfl (by kernel_rfl) ?_
        have hn18 := hS.f3.rdCells hcs
        have hcall := refBytes_spec (c := c18) hn18 (by omega)
        refine O_call rfl rfl rfl hcall (fun r w ⟨G2, hG2, hk⟩ => ?_)
        have hS := hS.after0 hk
        obtain ⟨AG2, cG2, rfl, _⟩ := hG2.form
        have hS := hS.f1
        refine O_end ⟨⟨_, hS⟩, ?_⟩
        refine OA_one 12 rfl (by kernel_rfl) ?_
        have hnG2 := own_bytes2 hG2 hS.f1
        have hS := hS.f2
        refine O_append hS hR rfl rfl (by decide) rfl rfl rfl (news := bvs (encRow o.nm)) (by simp) hnG2 (bvs_one _) (by (try simp only [List.length_append]); omega) (by (try simp only [List.length_append]); unfold maxLen; omega) (fun v1 R1 w hR hS => ?_)
        have hR := brow_append hR rfl
        have hS := hS.f1
        refine O_end ⟨⟨_, hS⟩, ?_⟩
        refine OA_take 13 rfl (by kernel_rfl) (by kernel_rfl) (by kernel_rfl) rfl rfl ⟨_, hS⟩ (fun w ⟨_, hS⟩ => E_assign rfl) ?_
        refine OA_end (by kernel_rfl) ?_
        have hS := hS.keep2
        exact ⟨hm, _, _, ⟨rfl, rfl, trivial⟩, hR, hS⟩
    · skip
      rintro σ w ⟨hm, v1, R1, hs, hR, hS⟩
      refine W_weak [(1, .pointer (some ⟨b1, 0, none⟩)), (4, v1)] hs ?_
      rw [hm]
      have hl8 := opok_len hm
      have hl3 := encs_len [2, o.k, o.c, o.s]
      have hl4 := encs_len [o.p, o.e, o.t, o.q]
      have her := encRow_len o.nm (by omega)
      simp only [List.length_cons, List.length_nil] at hl3 hl4
      refine W_seq ?_
      refine W_region ?_
      refine O_move rfl rfl rfl ?_
      refine O_fieldAddr rfl rfl rfl ?_
      refine O_load rfl rfl rfl rfl (hS.cell o.c4) ?_
      refine O_fieldAddr rfl rfl rfl ?_
      refine O_load rfl rfl rfl rfl (hS.cell o.c5) ?_
      refine O_fieldAddr rfl rfl rfl ?_
      refine O_load rfl rfl rfl rfl (hS.cell o.c6) ?_
      refine O_fieldAddr rfl rfl rfl ?_
      refine O_load rfl rfl rfl rfl (hS.cell o.c7) ?_
      refine O_lit hS rfl rfl rfl rfl rfl rfl (Nat.le_of_ble_eq_true rfl) (fun b30 w hS => ?_)
      have hn := hS.rdAll
      have hcall := refNums_spec (ns := [o.p, o.e, o.t, o.q]) (c := 4) hn (by simp)
      refine O_call rfl rfl rfl hcall (fun r w ⟨G3, hG3, hk⟩ => ?_)
      have hS := hS.after0 hk
      obtain ⟨AG3, cG3, rfl, _⟩ := hG3.form
      have hnG3 := own_bytes2 hG3 hS
      have hS := hS.f3
      refine O_append hS hR rfl rfl (by decide) rfl rfl rfl (news := bvs (encs [o.p, o.e, o.t, o.q])) (by simp) hnG3 (bvs_one _) (by (try simp only [List.length_append]); omega) (by (try simp only [List.length_append]); unfold maxLen; omega) (fun v1 R1 w hR hS => ?_)
      have hR := brow_append hR rfl
      have hS := hS.f3.keep2
      refine O_assign rfl rfl rfl ?_
      refine O_end ?_
      refine W_seq ?_
      refine W_seq ?_
      refine W_region ?_
      refine O_fieldAddr rfl rfl rfl ?_
      refine O_load rfl rfl rfl rfl (hS.cell o.c8) ?_
      refine O_end ?_
      refine W_if rfl (fun c34 => ?_) (fun c34 => ?_)
      · skip
        refine W_seq ?_
        refine W_region ?_
        refine O_move rfl rfl rfl ?_
        refine O_lit hS rfl rfl rfl rfl rfl rfl (Nat.le_of_ble_eq_true rfl) (fun b36 w hS => ?_)
        have hn : Rd w (some ⟨b36, 0, none⟩) (bvs [1]) := hS.rdAll
        have hS := hS.f2
        refine O_append hS hR rfl rfl (by decide) rfl rfl rfl (news := bvs ([1])) (by simp) hn (bvs_one _) (by (try simp only [List.length_append]); omega) (by (try simp only [List.length_append]); unfold maxLen; omega) (fun v1 R1 w hR hS => ?_)
        have hR := brow_append hR rfl
        refine O_assign rfl rfl rfl ?_
        refine O_assign rfl rfl rfl ?_
        refine O_end ?_
        refine W_ret ⟨_, rfl, ?_⟩
        refine ⟨_, R1, rfl, ?_, hS.keep1⟩
        have e : opb o = encs [2, o.k, o.c, o.s] ++ encRow o.nm ++ encs [o.p, o.e, o.t, o.q] ++ [1] := by
          have h1 : encs [o.p, o.e, o.t, o.q, cmI o.cm] = encs [o.p, o.e, o.t, o.q] ++ enc (clampN (cmI o.cm)) := by simp [encs, List.append_assoc]
          unfold opb
          rw [h1, enc_bit, c34, ← List.append_assoc]
          rfl
        rw [if_pos rfl, e]
        exact hR
      · skip
        refine W_skip ?_
        refine W_seq ?_
        refine W_region ?_
        refine O_move rfl rfl rfl ?_
        refine O_lit hS rfl rfl rfl rfl rfl rfl (Nat.le_of_ble_eq_true rfl) (fun b39 w hS => ?_)
        have hn : Rd w (some ⟨b39, 0, none⟩) (bvs [0]) := hS.rdAll
        have hS := hS.f2
        refine O_append hS hR rfl rfl (by decide) rfl rfl rfl (news := bvs ([0])) (by simp) hn (bvs_one _) (by (try simp only [List.length_append]); omega) (by (try simp only [List.length_append]); unfold maxLen; omega) (fun v1 R1 w hR hS => ?_)
        have hR := brow_append hR rfl
        refine O_assign rfl rfl rfl ?_
        refine O_assign rfl rfl rfl ?_
        refine O_end ?_
        refine W_ret ⟨_, rfl, ?_⟩
        refine ⟨_, R1, rfl, ?_, hS.keep1⟩
        have e : opb o = encs [2, o.k, o.c, o.s] ++ encRow o.nm ++ encs [o.p, o.e, o.t, o.q] ++ [0] := by
          have h1 : encs [o.p, o.e, o.t, o.q, cmI o.cm] = encs [o.p, o.e, o.t, o.q] ++ enc (clampN (cmI o.cm)) := by simp [encs, List.append_assoc]
          unfold opb
          rw [h1, enc_bit, c34, ← List.append_assoc]
          rfl
        rw [if_pos rfl, e]
        exact hR

theorem refEncodeMark_spec {w0 : World} {k p e t : Int} : Calls Tryd.prog 13 #[markv k p e t] w0 (Ret fun r w => ∃ v G, r = .tuple #[v, .int .i64 (if markok k p e t then 0 else 1)] ∧ BRow v (if markok k p e t then encs [3, k, p, e, t] else []) G ∧ St w0 [] [G] w) := by
  have hS : Own [] w0 := St.start w0
  refine calls_enter (l := [markv k p e t]) Tryd.func13 rfl Tryd.ntmps13 Tryd.results13 (Nat.le_of_ble_eq_true rfl) ?_
  refine W_seq ?_
  refine W_region ?_
  refine O_box hS rfl rfl rfl (fun b1 w hS => ?_)
  refine O_assign rfl rfl rfl ?_
  refine O_assign rfl rfl rfl ?_
  refine O_end ?_
  refine W_seq ?_
  refine W_seq ?_
  refine W_region ?_
  refine O_loadAgg rfl rfl rfl rfl rfl hS.rdAll ?_
  have hcall := IsMark_spec (w0 := w) (k := k) (p := p) (e := e) (t := t)
  refine O_call rfl rfl rfl hcall (fun r w ⟨hz, hk⟩ => ?_)
  subst hz
  have hS := hS.after0 hk
  refine O_not rfl rfl rfl ?_
  refine O_end ?_
  refine W_if rfl (fun c6 => ?_) (fun c6 => ?_)
  · skip
    refine W_seq ?_
    refine W_region ?_
    refine O_assign rfl rfl rfl ?_
    refine O_assign rfl rfl rfl ?_
    refine O_end ?_
    refine W_ret ⟨_, rfl, ?_⟩
    have hm : markok k p e t = false := by simpa using c6
    rw [hm]
    exact ⟨_, [], rfl, Row.nil _ _, hS.bare.empty⟩
  · skip
    refine W_skip ?_
    refine W_seq ?_
    refine W_region ?_
    refine O_fieldAddr rfl rfl rfl ?_
    first | refine O_load rfl rfl rfl rfl (hS.cell rfl) ?_ | refine O_load rfl rfl rfl rfl (by assumption) ?_
    refine O_fieldAddr rfl rfl rfl ?_
    first | refine O_load rfl rfl rfl rfl (hS.cell rfl) ?_ | refine O_load rfl rfl rfl rfl (by assumption) ?_
    refine O_fieldAddr rfl rfl rfl ?_
    first | refine O_load rfl rfl rfl rfl (hS.cell rfl) ?_ | refine O_load rfl rfl rfl rfl (by assumption) ?_
    refine O_fieldAddr rfl rfl rfl ?_
    first | refine O_load rfl rfl rfl rfl (hS.cell rfl) ?_ | refine O_load rfl rfl rfl rfl (by assumption) ?_
    refine O_lit hS rfl rfl rfl rfl rfl rfl (Nat.le_of_ble_eq_true rfl) (fun b15 w hS => ?_)
    have hn := hS.rdAll
    have hcall := refNums_spec (ns := [3, k, p, e, t]) (c := 5) hn (by simp)
    refine O_call rfl rfl rfl hcall (fun r w ⟨G, hG, hk⟩ => ?_)
    have hS := hS.after0 hk
    obtain ⟨AG, cG, rfl, _⟩ := hG.form
    refine O_assign rfl rfl rfl ?_
    refine O_assign rfl rfl rfl ?_
    refine O_end ?_
    refine W_ret ⟨_, rfl, ?_⟩
    have hm : markok k p e t = true := by simpa using c6
    rw [hm]
    exact ⟨_, G, rfl, hG, hS.keep1⟩

/-- Do bytes read as an operation, as the document says it? -/
def odec2 (bs : List UInt8) : Bool := decide (odone (begunSt bs 2) = some []) && (opok (oread (begunSt bs 2)) && decide (opb (oread (begunSt bs 2)) = bs))

set_option maxHeartbeats 1000000 in
theorem refDecodeOp_spec {w0 : World} {A : Option Addr} {bs : List UInt8} {c : Nat} (hr : Rd w0 A (bvs bs)) (hc : bs.length ≤ c) (hm : c ≤ maxLen) (hb : bs.length ≤ 1000000000) :
    Calls Tryd.prog 11 #[.slice A bs.length c] w0 (Ret fun x w => x = .tuple #[.agg (if odec2 bs then oread (begunSt bs 2) else opZ).cs.toArray, .int .i64 (if odec2 bs then 0 else 2)] ∧ St w0 [] [] w) := by
  obtain ⟨G, hS, hVw, hGw⟩ := adopt hr hc hm
  have hV : RView (.slice A bs.length c) false (some bs) G := ⟨rfl, hVw⟩
  have hview := hVw
  obtain ⟨_, _, hq, _, _, hrdG⟩ := hVw
  cases hq
  have hl := begun_left bs 2 hb
  have hl4 := ops4_left (begunSt bs 2) hl
  refine calls_enterC (l := [.slice A bs.length c]) (fn := Tryd.f11) Tryd.func11 rfl Tryd.ntmps11 (Nat.le_of_ble_eq_true rfl) ?_
  refine W_seq ?_
  refine W_region ?_
  refine O_alloc hS rfl rfl (fun b2 w hS => ?_)
  refine O_assign rfl rfl rfl ?_
  refine O_end ?_
  refine W_seq ?_
  refine W_region ?_
  refine O_move rfl rfl rfl ?_
  refine O_build (c := #[.slice A bs.length c, .bool false]) rfl rfl rfl (fun _ => by kernel_rfl) ?_
  refine O_box hS rfl rfl rfl (fun q w hS => ?_)
  have hS := hS.f2.f1
  refine O_assign rfl rfl rfl ?_
  refine O_end ?_
  refine W_cut (fun σ w => ∃ v b, sub σ [(0, .slice A bs.length c), (2, .pointer (some ⟨b2, 0, none⟩)), (3, .int .i64 0), (4, .pointer (some ⟨q, 0, none⟩))] ∧ RView v b (begunSt bs 2) G ∧ St w0 (idsOf [G]) [qcell q v b, G, ocell b2 opZ] w) ?_ ?_
  · skip
    refine W_seq ?_
    refine W_region ?_
    refine O_move rfl rfl rfl ?_
    have hcall := qnum_spec hS.own2 hV (show (RSt.left (some bs)).length ≤ 1000000000 from hb)
    refine O_call rfl rfl rfl hcall (fun x w ⟨hz, v, b, hV, Gs, hk⟩ => ?_)
    subst hz
    have hS := (hS.after2 (packed2 hk)).f2.drop
    refine O_bin rfl rfl rfl rfl rfl ?_
    refine O_end ?_
    refine W_if rfl (fun c13 => ?_) (fun c13 => ?_)
    · skip
      refine W_region ?_
      refine O_move rfl rfl rfl ?_
      have hcall := qbad_spec hS.own2
      refine O_call rfl rfl rfl hcall (fun x w ⟨hz, hk⟩ => ?_)
      subst hz
      have hS := hS.after2 hk
      refine O_end ?_
      have he : begunSt bs 2 = none := by
        unfold begunSt
        rw [if_neg (by simpa using c13)]
      rw [he]
      exact ⟨_, _, ⟨rfl, rfl, rfl, rfl, trivial⟩, RView.bad G, hS⟩
    · skip
      refine W_skip ?_
      have he : begunSt bs 2 = (rnum (some bs)).2 := by
        unfold begunSt
        rw [if_pos (by simpa using c13)]
      rw [he]
      exact ⟨_, _, ⟨rfl, rfl, rfl, rfl, trivial⟩, hV, hS⟩
  · skip
    rintro σ w ⟨v, b, hs, hV, hS⟩
    refine W_weak [(0, .slice A bs.length c), (2, .pointer (some ⟨b2, 0, none⟩)), (3, .int .i64 0), (4, .pointer (some ⟨q, 0, none⟩))] hs ?_
    refine W_seq ?_
    refine W_region ?_
    refine O_move rfl rfl rfl ?_
    have hcall := qnum_spec hS.own2 hV (hl)
    refine O_call rfl rfl rfl hcall (fun x w ⟨hz, v, b, hV, Gs, hk⟩ => ?_)
    subst hz
    have hS := (hS.after2 (packed2 hk)).f2.drop
    refine O_build (c := (Opr.mk ((rnum (begunSt bs 2)).1 : Nat) 0 0 [] 0 0 0 0 false).cs.toArray) rfl rfl rfl (fun _ => by kernel_rfl) ?_
    refine O_alloc hS rfl rfl (fun b5 w hS => ?_)
    refine O_storeAgg hS rfl rfl rfl rfl rfl (Nat.le_of_ble_eq_true rfl) (fun w hS => ?_)
    have hS := (St.whole (vs := (Opr.mk ((rnum (begunSt bs 2)).1 : Nat) 0 0 [] 0 0 0 0 false).cs) hS rfl).f1.f2.f1
    refine O_end ?_
    refine W_seq ?_
    refine W_region ?_
    refine O_move rfl rfl rfl ?_
    have hcall := qnum_spec hS.own2 hV (rsq_left (begunSt bs 2) hl 1)
    refine O_call rfl rfl rfl hcall (fun x w ⟨hz, v, b, hV, Gs, hk⟩ => ?_)
    subst hz
    have hS := (hS.after2 (packed2 hk)).f2.drop
    refine O_fieldAddr rfl rfl rfl ?_
    refine O_store hS.f2 rfl rfl rfl rfl (by simp) (fun w hS => ?_)
    have hS : St w0 (idsOf [G]) [ocell b5 (Opr.mk ((rnum (begunSt bs 2)).1 : Nat) ((rnum (rsq (begunSt bs 2) 1)).1 : Nat) 0 [] 0 0 0 0 false), qcell q v b, G, ocell b2 opZ] w := hS
    have hS := hS.f1.f2.f1
    refine O_end ?_
    refine W_seq ?_
    refine W_region ?_
    refine O_move rfl rfl rfl ?_
    have hcall := qnum_spec hS.own2 hV (rsq_left (begunSt bs 2) hl 2)
    refine O_call rfl rfl rfl hcall (fun x w ⟨hz, v, b, hV, Gs, hk⟩ => ?_)
    subst hz
    have hS := (hS.after2 (packed2 hk)).f2.drop
    refine O_fieldAddr rfl rfl rfl ?_
    refine O_store hS.f2 rfl rfl rfl rfl (by simp) (fun w hS => ?_)
    have hS : St w0 (idsOf [G]) [ocell b5 (Opr.mk ((rnum (begunSt bs 2)).1 : Nat) ((rnum (rsq (begunSt bs 2) 1)).1 : Nat) ((rnum (rsq (begunSt bs 2) 2)).1 : Nat) [] 0 0 0 0 false), qcell q v b, G, ocell b2 opZ] w := hS
    have hS := hS.f1.f2.f1
    refine O_end ?_
    refine W_seq ?_
    refine W_region ?_
    refine O_move rfl rfl rfl ?_
    have hcall := qbytes_spec hS.own2 hV (rsq_left (begunSt bs 2) hl 3)
    refine O_call rfl rfl rfl hcall (fun x w ⟨v, b, G7, hG7, hV, Gs, hk⟩ => ?_)
    have hS := (hS.after2 (packed3 hk)).f3.drop
    obtain ⟨A7, c7, rfl, _⟩ := hG7.form
    have hn7 := (hG7.rd hS).choose_spec.choose_spec
    obtain ⟨_, _, hq7, _, _, hn7, _⟩ := hG7.rd hS
    cases hq7
    refine O_str rfl rfl rfl hn7 ?_
    have hS := hS.drop
    refine O_fieldAddr rfl rfl rfl ?_
    refine O_store hS.f2 rfl rfl rfl rfl (by simp) (fun w hS => ?_)
    have hS : St w0 (idsOf [G]) [ocell b5 (Opr.mk ((rnum (begunSt bs 2)).1 : Nat) ((rnum (rsq (begunSt bs 2) 1)).1 : Nat) ((rnum (rsq (begunSt bs 2) 2)).1 : Nat) (rbytes (rsq (begunSt bs 2) 3)).1 0 0 0 0 false), qcell q v b, G, ocell b2 opZ] w := hS
    have hS := hS.f1.f2.f1
    refine O_end ?_
    refine W_seq ?_
    refine W_region ?_
    refine O_move rfl rfl rfl ?_
    have hcall := qnum_spec hS.own2 hV (hl4)
    refine O_call rfl rfl rfl hcall (fun x w ⟨hz, v, b, hV, Gs, hk⟩ => ?_)
    subst hz
    have hS := (hS.after2 (packed2 hk)).f2.drop
    refine O_fieldAddr rfl rfl rfl ?_
    refine O_store hS.f2 rfl rfl rfl rfl (by simp) (fun w hS => ?_)
    have hS : St w0 (idsOf [G]) [ocell b5 (Opr.mk ((rnum (begunSt bs 2)).1 : Nat) ((rnum (rsq (begunSt bs 2) 1)).1 : Nat) ((rnum (rsq (begunSt bs 2) 2)).1 : Nat) (rbytes (rsq (begunSt bs 2) 3)).1 ((rnum (ops4 (begunSt bs 2))).1 : Nat) 0 0 0 false), qcell q v b, G, ocell b2 opZ] w := hS
    have hS := hS.f1.f2.f1
    refine O_end ?_
    refine W_seq ?_
    refine W_region ?_
    refine O_move rfl rfl rfl ?_
    have hcall := qnum_spec hS.own2 hV (rsq_left (ops4 (begunSt bs 2)) hl4 1)
    refine O_call rfl rfl rfl hcall (fun x w ⟨hz, v, b, hV, Gs, hk⟩ => ?_)
    subst hz
    have hS := (hS.after2 (packed2 hk)).f2.drop
    refine O_fieldAddr rfl rfl rfl ?_
    refine O_store hS.f2 rfl rfl rfl rfl (by simp) (fun w hS => ?_)
    have hS : St w0 (idsOf [G]) [ocell b5 (Opr.mk ((rnum (begunSt bs 2)).1 : Nat) ((rnum (rsq (begunSt bs 2) 1)).1 : Nat) ((rnum (rsq (begunSt bs 2) 2)).1 : Nat) (rbytes (rsq (begunSt bs 2) 3)).1 ((rnum (ops4 (begunSt bs 2))).1 : Nat) ((rnum (rsq (ops4 (begunSt bs 2)) 1)).1 : Nat) 0 0 false), qcell q v b, G, ocell b2 opZ] w := hS
    have hS := hS.f1.f2.f1
    refine O_end ?_
    refine W_seq ?_
    refine W_region ?_
    refine O_move rfl rfl rfl ?_
    have hcall := qnum_spec hS.own2 hV (rsq_left (ops4 (begunSt bs 2)) hl4 2)
    refine O_call rfl rfl rfl hcall (fun x w ⟨hz, v, b, hV, Gs, hk⟩ => ?_)
    subst hz
    have hS := (hS.after2 (packed2 hk)).f2.drop
    refine O_fieldAddr rfl rfl rfl ?_
    refine O_store hS.f2 rfl rfl rfl rfl (by simp) (fun w hS => ?_)
    have hS : St w0 (idsOf [G]) [ocell b5 (Opr.mk ((rnum (begunSt bs 2)).1 : Nat) ((rnum (rsq (begunSt bs 2) 1)).1 : Nat) ((rnum (rsq (begunSt bs 2) 2)).1 : Nat) (rbytes (rsq (begunSt bs 2) 3)).1 ((rnum (ops4 (begunSt bs 2))).1 : Nat) ((rnum (rsq (ops4 (begunSt bs 2)) 1)).1 : Nat) ((rnum (rsq (ops4 (begunSt bs 2)) 2)).1 : Nat) 0 false), qcell q v b, G, ocell b2 opZ] w := hS
    have hS := hS.f1.f2.f1
    refine O_end ?_
    refine W_seq ?_
    refine W_region ?_
    refine O_move rfl rfl rfl ?_
    have hcall := qnum_spec hS.own2 hV (rsq_left (ops4 (begunSt bs 2)) hl4 3)
    refine O_call rfl rfl rfl hcall (fun x w ⟨hz, v, b, hV, Gs, hk⟩ => ?_)
    subst hz
    have hS := (hS.after2 (packed2 hk)).f2.drop
    refine O_fieldAddr rfl rfl rfl ?_
    refine O_store hS.f2 rfl rfl rfl rfl (by simp) (fun w hS => ?_)
    have hS : St w0 (idsOf [G]) [ocell b5 (Opr.mk ((rnum (begunSt bs 2)).1 : Nat) ((rnum (rsq (begunSt bs 2) 1)).1 : Nat) ((rnum (rsq (begunSt bs 2) 2)).1 : Nat) (rbytes (rsq (begunSt bs 2) 3)).1 ((rnum (ops4 (begunSt bs 2))).1 : Nat) ((rnum (rsq (ops4 (begunSt bs 2)) 1)).1 : Nat) ((rnum (rsq (ops4 (begunSt bs 2)) 2)).1 : Nat) ((rnum (rsq (ops4 (begunSt bs 2)) 3)).1 : Nat) false), qcell q v b, G, ocell b2 opZ] w := hS
    have hS := hS.f1.f2.f1
    refine O_end ?_
    refine W_seq ?_
    refine W_region ?_
    refine O_move rfl rfl rfl ?_
    have hcall := qnum_spec hS.own2 hV (rsq_left (ops4 (begunSt bs 2)) hl4 4)
    refine O_call rfl rfl rfl hcall (fun x w ⟨hz, v, b, hV, Gs, hk⟩ => ?_)
    subst hz
    have hS := (hS.after2 (packed2 hk)).f2.drop
    have hV : RView v b (odone (begunSt bs 2)) G := hV
    refine O_bin rfl rfl rfl rfl rfl ?_
    refine O_fieldAddr rfl rfl rfl ?_
    refine O_store hS.f2 rfl rfl rfl rfl (by simp) (fun w hS => ?_)
    have hS : St w0 (idsOf [G]) [ocell b5 (oread (begunSt bs 2)), qcell q v b, G, ocell b2 opZ] w := hS
    have hS := hS.f1.f2.f1
    refine O_end ?_
    refine W_seq ?_
    refine W_region ?_
    refine O_loadAgg (vs := (oread (begunSt bs 2)).cs) rfl rfl rfl rfl rfl hS.f2.rdAll ?_
    have hcall := refEncodeOp_spec (w0 := w) (o := oread (begunSt bs 2)) (by have := oname_len (begunSt bs 2) hl; show (oread0 (begunSt bs 2)).nm.length ≤ _; omega)
    refine O_call rfl rfl rfl hcall (fun x w ⟨ve, Ge, hz, hGe, hk⟩ => ?_)
    subst hz
    have hS := (hS.after0 hk).f4.f4.f4.f4
    refine O_move rfl rfl rfl ?_
    refine O_extract rfl rfl rfl rfl ?_
    refine O_extract rfl rfl rfl rfl ?_
    refine O_assign rfl rfl rfl ?_
    refine O_assign rfl rfl rfl ?_
    refine O_end ?_
    refine W_seq ?_
    refine W_seq ?_
    refine W_region ?_
    refine O_move rfl rfl rfl ?_
    have hcall := qwhole_spec hS.own2 hV
    refine O_call rfl rfl rfl hcall (fun x w ⟨hz, hk⟩ => ?_)
    subst hz
    have hS := hS.after2 hk
    refine O_not rfl rfl rfl ?_
    refine O_move rfl rfl rfl ?_
    refine O_part 53 rfl (fun c53 => ?_) (fun c53 => ?_)
    · skip
      refine O_skip rfl rfl ?_
      refine O_skip rfl rfl ?_
      first | refine O_pick_true rfl rfl rfl rfl ?_ | refine O_pick_false rfl rfl rfl rfl ?_
      refine O_move rfl rfl rfl ?_
      refine O_know 57 (.bool true) rfl (congrArg Value.bool (rfl)) ?_
      refine O_skip rfl rfl ?_
      refine O_skip rfl rfl ?_
      refine O_skip rfl rfl ?_
      refine O_skip rfl rfl ?_
      refine O_skip rfl rfl ?_
      first | refine O_pick_true rfl rfl rfl rfl ?_ | refine O_pick_false rfl rfl rfl rfl ?_
      refine O_end ?_
      refine W_if_true rfl (rfl) ?_
      refine W_seq ?_
      refine W_region ?_
      refine O_build (c := opZ.cs.toArray) rfl rfl rfl (fun _ => by kernel_rfl) ?_
      refine O_storeAgg hS.f3 rfl rfl rfl rfl rfl (Nat.le_of_ble_eq_true rfl) (fun w hS => ?_)
      refine O_assign rfl rfl rfl ?_
      refine O_end ?_
      refine W_ret ⟨_, res_cell_tmp Tryd.results11 rfl rfl rfl rfl (hS.rdAll), ?_⟩
      have hd : odec2 bs = false := by
        unfold odec2
        first
          | (have h := c63; rw [Bool.not_eq_true'] at h; rw [h, Bool.and_false, Bool.and_false])
          | (have h := c57
             cases hop : opok (oread (begunSt bs 2)) with
             | true => rw [hop] at h; exact absurd h (by decide)
             | false => rw [Bool.false_and, Bool.and_false])
          | (have h := c53; rw [Bool.not_eq_true'] at h; rw [h, Bool.false_and])
      rw [hd]
      exact ⟨rfl, (St.unadopt hS.f2 hGw).bare⟩
    · skip
      refine O_move rfl rfl rfl ?_
      refine O_bin rfl rfl rfl rfl rfl ?_
      first | refine O_pick_true rfl rfl rfl rfl ?_ | refine O_pick_false rfl rfl rfl rfl ?_
      refine O_move rfl rfl rfl ?_
      refine O_part 57 rfl (fun c57 => ?_) (fun c57 => ?_)
      · skip
        refine O_skip rfl rfl ?_
        refine O_skip rfl rfl ?_
        refine O_skip rfl rfl ?_
        refine O_skip rfl rfl ?_
        refine O_skip rfl rfl ?_
        first | refine O_pick_true rfl rfl rfl rfl ?_ | refine O_pick_false rfl rfl rfl rfl ?_
        refine O_end ?_
        refine W_if_true rfl (rfl) ?_
        refine W_seq ?_
        refine W_region ?_
        refine O_build (c := opZ.cs.toArray) rfl rfl rfl (fun _ => by kernel_rfl) ?_
        refine O_storeAgg hS.f3 rfl rfl rfl rfl rfl (Nat.le_of_ble_eq_true rfl) (fun w hS => ?_)
        refine O_assign rfl rfl rfl ?_
        refine O_end ?_
        refine W_ret ⟨_, res_cell_tmp Tryd.results11 rfl rfl rfl rfl (hS.rdAll), ?_⟩
        have hd : odec2 bs = false := by
          unfold odec2
          first
            | (have h := c63; rw [Bool.not_eq_true'] at h; rw [h, Bool.and_false, Bool.and_false])
            | (have h := c57
               cases hop : opok (oread (begunSt bs 2)) with
               | true => rw [hop] at h; exact absurd h (by decide)
               | false => rw [Bool.false_and, Bool.and_false])
            | (have h := c53; rw [Bool.not_eq_true'] at h; rw [h, Bool.false_and])
        rw [hd]
        exact ⟨rfl, (St.unadopt hS.f2 hGw).bare⟩
      · skip
        have hok : opok (oread (begunSt bs 2)) = true := by
          have := c57
          cases h : opok (oread (begunSt bs 2)) with
          | true => rfl
          | false => rw [h] at this; exact absurd this (by decide)
        rw [hok, if_pos rfl] at hGe
        obtain ⟨Ae, ce, rfl, _⟩ := hGe.form
        have hne := own_bytes2 hGe hS.f4
        refine O_move rfl rfl rfl ?_
        refine O_str rfl rfl rfl hne ?_
        refine O_move rfl rfl rfl ?_
        refine O_str rfl rfl rfl (hrdG _ _ _ _ hS.f1).1 ?_
        refine O_neq_str rfl rfl rfl rfl (strOf_eq _ _) ?_
        first | refine O_pick_true rfl rfl rfl rfl ?_ | refine O_pick_false rfl rfl rfl rfl ?_
        refine O_end ?_
        refine W_if rfl (fun c63 => ?_) (fun c63 => ?_)
        · skip
          refine W_seq ?_
          refine W_region ?_
          refine O_build (c := opZ.cs.toArray) rfl rfl rfl (fun _ => by kernel_rfl) ?_
          refine O_storeAgg hS.f3 rfl rfl rfl rfl rfl (Nat.le_of_ble_eq_true rfl) (fun w hS => ?_)
          refine O_assign rfl rfl rfl ?_
          refine O_end ?_
          refine W_ret ⟨_, res_cell_tmp Tryd.results11 rfl rfl rfl rfl (hS.rdAll), ?_⟩
          have hd : odec2 bs = false := by
            unfold odec2
            first
              | (have h := c63; rw [Bool.not_eq_true'] at h; rw [h, Bool.and_false, Bool.and_false])
              | (have h := c57
                 cases hop : opok (oread (begunSt bs 2)) with
                 | true => rw [hop] at h; exact absurd h (by decide)
                 | false => rw [Bool.false_and, Bool.and_false])
              | (have h := c53; rw [Bool.not_eq_true'] at h; rw [h, Bool.false_and])
          rw [hd]
          exact ⟨rfl, (St.unadopt hS.f2 hGw).bare⟩
        · skip
          refine W_skip ?_
          refine W_seq ?_
          refine W_region ?_
          refine O_loadAgg (vs := (oread (begunSt bs 2)).cs) rfl rfl rfl rfl rfl hS.f2.rdAll ?_
          refine O_storeAgg hS.f3 rfl rfl rfl rfl rfl (Nat.le_of_ble_eq_true rfl) (fun w hS => ?_)
          refine O_assign rfl rfl rfl ?_
          refine O_end ?_
          refine W_ret ⟨_, res_cell_tmp Tryd.results11 rfl rfl rfl rfl (hS.rdAll), ?_⟩
          have hd : odec2 bs = true := by
            unfold odec2
            simp only [Bool.and_eq_true, decide_eq_true_eq]
            exact ⟨by simpa using c53, hok, by simpa using c63⟩
          rw [hd]
          exact ⟨rfl, (St.unadopt hS.f2 hGw).bare⟩

end Go.Proofs.YtaglgnjamihdnaaDoor.R
