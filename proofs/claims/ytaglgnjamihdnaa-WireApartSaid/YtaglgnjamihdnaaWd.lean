/- What is sealed of a vote and of a message, as the document lays it. -/
import Derived.Test.YtaglgnjamihdnaaWc
namespace Go.Proofs.Ytaglgnjamihdnaa.R
open Go Go.RowKit Go.Proofs
set_option linter.unusedVariables false
set_option linter.unusedSimpArgs false
set_option maxRecDepth 20000

abbrev vcell (b : Nat) (x : Vt) : List Chunk := [(b, .cells x.cs.toArray 29 (0, 0))]
abbrev mcell (b : Nat) (m : Mg) : List Chunk := [(b, .cells m.cs.toArray 27 (0, 0))]
theorem enc_one (n : Int) : encs [n] = enc (clampN n) := by simp [encs]
theorem vq0 {w0 w : World} {b : Nat} {x : Vt} (h : ∃ Gs, St w0 [] ([vcell b x] ++ Gs) w) : w.cell? ⟨b, 0, none⟩ = some (iv x.k) := by obtain ⟨_, h⟩ := h; exact St.cell h x.c0
theorem vq1 {w0 w : World} {b : Nat} {x : Vt} (h : ∃ Gs, St w0 [] ([vcell b x] ++ Gs) w) : w.cell? ⟨b, 1, none⟩ = some (iv x.s) := by obtain ⟨_, h⟩ := h; exact St.cell h x.c1
theorem vq2 {w0 w : World} {b : Nat} {x : Vt} (h : ∃ Gs, St w0 [] ([vcell b x] ++ Gs) w) : w.cell? ⟨b, 2, none⟩ = some (iv x.v) := by obtain ⟨_, h⟩ := h; exact St.cell h x.c2
theorem vq35 {w0 w : World} {b : Nat} {x : Vt} (hx : x.ok) (h : ∃ Gs, St w0 [] ([vcell b x] ++ Gs) w) : w.cell? ⟨b, 35, none⟩ = some (iv x.f) := by obtain ⟨_, h⟩ := h; exact St.cell h (x.c35 hx)
theorem mq5 {w0 w : World} {b : Nat} {m : Mg} (h : ∃ Gs, St w0 [] ([mcell b m] ++ Gs) w) : w.cell? ⟨b, 5, none⟩ = some (.slice m.A m.x.length m.c) := by obtain ⟨_, h⟩ := h; exact St.cell h m.c5
theorem mq6 {w0 w : World} {b : Nat} {m : Mg} (h : ∃ Gs, St w0 [] ([mcell b m] ++ Gs) w) : w.cell? ⟨b, 6, none⟩ = some (.slice m.B m.l.length m.d) := by obtain ⟨_, h⟩ := h; exact St.cell h m.c6

theorem refVoteBody_spec {w0 : World} {x : Vt} (hx : x.ok) : Calls Try.prog 11 #[.agg x.cs.toArray] w0 (Ret fun r w => ∃ G, BRow r x.sealb G ∧ St w0 [] [G] w) := by
  have hS : Own [] w0 := St.start w0
  have hs := hx.1
  have hl3 := encs_len [5, x.k, x.s, x.v]
  have hlf := enc_le _ (clampN_le x.f)
  simp only [List.length_cons, List.length_nil] at hl3
  refine calls_enter (l := [.agg x.cs.toArray]) Try.func11 rfl Try.ntmps11 Try.results11 (Nat.le_of_ble_eq_true rfl) ?_
  refine W_seq ?_
  refine W_region ?_
  refine O_box hS rfl rfl rfl (fun b1 w hS => ?_)
  refine O_assign rfl rfl rfl ?_
  refine O_end ?_
  refine W_seq ?_
  refine W_drawn (fun w => ∃ Gs, St w0 [] ([vcell b1 x] ++ Gs) w) ?_
  have hS := hS.drew
  refine OA_take 0 rfl (by kernel_rfl) (by kernel_rfl) (by kernel_rfl) rfl rfl ⟨_, hS⟩ (fun w ⟨_, hS⟩ => E_fieldAddr rfl) ?_
  refine OA_take 1 rfl (by kernel_rfl) (by kernel_rfl) (by kernel_rfl) rfl rfl ⟨_, hS⟩ (fun w h => E_load rfl rfl (vq0 h)) ?_
  refine OA_take 2 rfl (by kernel_rfl) (by kernel_rfl) (by kernel_rfl) rfl rfl ⟨_, hS⟩ (fun w ⟨_, hS⟩ => E_fieldAddr rfl) ?_
  refine OA_take 3 rfl (by kernel_rfl) (by kernel_rfl) (by kernel_rfl) rfl rfl ⟨_, hS⟩ (fun w h => E_load rfl rfl (vq1 h)) ?_
  refine OA_take 4 rfl (by kernel_rfl) (by kernel_rfl) (by kernel_rfl) rfl rfl ⟨_, hS⟩ (fun w ⟨_, hS⟩ => E_fieldAddr rfl) ?_
  refine OA_take 5 rfl (by kernel_rfl) (by kernel_rfl) (by kernel_rfl) rfl rfl ⟨_, hS⟩ (fun w h => E_load rfl rfl (vq2 h)) ?_
  refine OA_take 8 rfl (by kernel_rfl) (by kernel_rfl) (by kernel_rfl) rfl rfl ⟨_, hS⟩ (fun w ⟨_, hS⟩ => E_fieldAddr rfl) ?_
  refine OA_take 9 rfl (by kernel_rfl) (by kernel_rfl) (by kernel_rfl) rfl rfl ⟨_, hS⟩ (fun w _ => E_slice_array rfl) ?_
  refine OA_one 6 rfl (by kernel_rfl) ?_
  refine O_lit hS rfl rfl rfl rfl rfl rfl (Nat.le_of_ble_eq_true rfl) (fun b10 w hS => ?_)
  have hS := hS.f1
  refine O_end ⟨⟨_, hS⟩, ?_⟩
  refine OA_one 7 rfl (by kernel_rfl) ?_
  have hn := hS.f1.rdAll
  have hcall := refNums_spec (ns := [5, x.k, x.s, x.v]) (c := 4) hn (by simp)
  refine O_call rfl rfl rfl hcall (fun r w ⟨G, hG, hk⟩ => ?_)
  have hS := hS.after0 hk
  obtain ⟨AG, cG, rfl, _⟩ := hG.form
  have hR := hG
  have hS := hS.f1
  refine O_end ⟨⟨_, hS⟩, ?_⟩
  refine OA_one 10 rfl (by kernel_rfl) ?_
  have hrs := hS.rdCells (off := 0 + 3) (vs := bvs x.sum) (x.csum hx)
  have hS := hS.f1
  refine O_append hS hR rfl rfl (by decide) rfl rfl rfl (news := bvs (x.sum)) (by simp [hx.1]) hrs (bvs_one _) (by (try simp only [List.length_append]); omega) (by (try simp only [List.length_append]); unfold maxLen; omega) (fun v1 R1 w hR hS => ?_)
  have hR := brow_append hR hx.1.symm
  have hS := hS.f1
  refine O_end ⟨⟨_, hS⟩, ?_⟩
  refine OA_take 11 rfl (by kernel_rfl) (by kernel_rfl) (by kernel_rfl) rfl rfl ⟨_, hS⟩ (fun w ⟨_, hS⟩ => E_assign rfl) ?_
  refine OA_end (by kernel_rfl) ?_
  refine W_seq ?_
  refine W_region ?_
  refine O_move rfl rfl rfl ?_
  refine O_fieldAddr rfl rfl rfl ?_
  refine O_load rfl rfl rfl rfl (hS.cell (x.c35 hx)) ?_
  have hcall := refNum_spec (w0 := w) (x := x.f)
  refine O_call rfl rfl rfl hcall (fun r w ⟨G2, hG2, hk⟩ => ?_)
  have hS := hS.after0 hk
  obtain ⟨AG2, cG2, rfl, _⟩ := hG2.form
  obtain ⟨_, _, hq, _, _, hnG2, _⟩ := hG2.rd hS
  cases hq
  have hS := hS.f2
  refine O_append hS hR rfl rfl (by decide) rfl rfl rfl (news := bvs (enc (clampN x.f))) (by simp) hnG2 (bvs_one _) (by (try simp only [List.length_append]); omega) (by (try simp only [List.length_append]); unfold maxLen; omega) (fun v1 R1 w hR hS => ?_)
  have hR := brow_append hR rfl
  refine O_assign rfl rfl rfl ?_
  refine O_end ?_
  refine W_ret ⟨_, rfl, ?_⟩
  refine ⟨R1, ?_, hS.keep1⟩
  have e : x.sealb = encs [5, x.k, x.s, x.v] ++ x.sum ++ enc (clampN x.f) := by simp [Vt.sealb, enc_one, List.append_assoc]
  rw [e]
  exact hR

set_option maxHeartbeats 800000 in
theorem refVotes_spec {w0 : World} {B : Option Addr} {l : List Vt} {d : Nat} (hr : Rd w0 B (l.flatMap Vt.cs)) (hx : ∀ x ∈ l, x.ok) (hl : l.length ≤ 1000) : Calls Try.prog 28 #[.slice B l.length d] w0 (Ret fun r w => ∃ G, BRow r (votesb l) G ∧ St w0 [] [G] w) := by
  have hS : Own [] w0 := St.start w0
  refine calls_enter (l := [.slice B l.length d]) Try.func28 rfl Try.ntmps28 Try.results28 (Nat.le_of_ble_eq_true rfl) ?_
  refine W_seq ?_
  refine W_region ?_
  refine O_assign rfl rfl rfl ?_
  refine O_end ?_
  refine W_seq ?_
  refine W_region ?_
  refine O_move rfl rfl rfl ?_
  refine O_len rfl rfl rfl rfl ?_
  have hcall := refNum_spec (w0 := w0) (x := (l.length : Int))
  refine O_call rfl rfl rfl hcall (fun r w ⟨G, hG, hk⟩ => ?_)
  have hS := hS.after0 hk
  obtain ⟨AG, cG, rfl, _⟩ := hG.form
  have hle := enc_le _ (clampN_le (l.length : Int))
  refine O_assign rfl rfl rfl ?_
  refine O_end ?_
  refine W_seq ?_
  refine W_seq ?_
  refine W_region ?_
  refine O_assign rfl rfl rfl ?_
  refine O_end ?_
  refine W_block ?_
  refine W_loop (ι := Nat × Value × List Chunk) (fun i => [(0, .slice B l.length d), (3, i.2.1), (4, .int .i64 (i.1 : Nat))])
      (fun i w => i.1 ≤ l.length ∧ BRow i.2.1 (enc (clampN (l.length : Int)) ++ (l.take i.1).flatMap Vt.layb) i.2.2 ∧ St w0 [] [i.2.2] w) (fun i => l.length - i.1) (0, _, G) ⟨rfl, rfl, rfl, trivial⟩ ⟨Nat.zero_le _, by simpa using hG, hS⟩ ?_
  rintro ⟨i, v1, R1⟩ w ⟨hi, hR, hS⟩
  dsimp only at hi hR hS ⊢
  refine W_seq ?_
  refine W_seq ?_
  refine W_region ?_
  refine O_move rfl rfl rfl ?_
  refine O_move rfl rfl rfl ?_
  refine O_len rfl rfl rfl rfl ?_
  refine O_bin rfl rfl rfl rfl rfl ?_
  refine O_end ?_
  refine W_if rfl (fun c12 => ?_) (fun c12 => ?_)
  · skip
    refine W_skip ?_
    refine W_seq ?_
    refine W_block ?_
    refine W_seq ?_
    refine W_region ?_
    refine O_move rfl rfl rfl ?_
    refine O_move rfl rfl rfl ?_
    have hlt : i < l.length := by have := of_decide_eq_true c12; omega
    have hxi := hx l[i] (List.getElem_mem hlt)
    have hs := hxi.1
    have ht := hxi.2
    have hrw := hS.rd hr (Apart.of_nil _ _)
    have hlt2 := layb_take l hx i
    have hl3 := encs_len [l[i].k, l[i].s, l[i].v]
    have hlf := enc_le _ (clampN_le l[i].f)
    simp only [List.length_cons, List.length_nil] at hl3
    refine O_indexRd rfl rfl rfl rfl hrw (v := iv l[i].k) (votes_first l hx i hlt) hlt (fun ad hA hc => ?_)
    subst hA
    refine O_loadAgg rfl rfl rfl rfl (l[i].len hxi) (votes_rd hrw hx i hlt) ?_
    refine O_alloc hS rfl rfl (fun b5 w hS => ?_)
    refine O_storeAgg hS rfl rfl rfl l[i].one (l[i].len hxi) (Nat.le_of_ble_eq_true rfl) (fun w hS => ?_)
    have hS := St.whole (vs := l[i].cs) hS (by rw [l[i].len hxi]; rfl)
    refine O_end ?_
    refine W_seq ?_
    refine W_region ?_
    refine O_move rfl rfl rfl ?_
    refine O_fieldAddr rfl rfl rfl ?_
    refine O_load rfl rfl rfl rfl (hS.cell l[i].c0) ?_
    refine O_fieldAddr rfl rfl rfl ?_
    refine O_load rfl rfl rfl rfl (hS.cell l[i].c1) ?_
    refine O_fieldAddr rfl rfl rfl ?_
    refine O_load rfl rfl rfl rfl (hS.cell l[i].c2) ?_
    refine O_lit hS rfl rfl rfl rfl rfl rfl (Nat.le_of_ble_eq_true rfl) (fun b26 w hS => ?_)
    have hn := hS.rdAll
    have hcall := refNums_spec (ns := [l[i].k, l[i].s, l[i].v]) (c := 3) hn (by simp)
    refine O_call rfl rfl rfl hcall (fun r w ⟨G2, hG2, hk⟩ => ?_)
    have hS := hS.after0 hk
    obtain ⟨AG2, cG2, rfl, _⟩ := hG2.form
    obtain ⟨_, _, hq, _, _, hnG2, _⟩ := hG2.rd hS
    cases hq
    have hS := hS.f3
    refine O_append hS hR rfl rfl (by decide) rfl rfl rfl (news := bvs (encs [l[i].k, l[i].s, l[i].v])) (by simp) hnG2 (bvs_one _) (by (try simp only [List.length_append]); omega) (by (try simp only [List.length_append]); unfold maxLen; omega) (fun v1 R1 w hR hS => ?_)
    have hR := brow_append hR rfl
    refine O_assign rfl rfl rfl ?_
    refine O_end ?_
    refine W_seq ?_
    refine W_drawn (fun w => ∃ Gs, St w0 [] ([vcell b5 l[i]] ++ Gs) w) ?_
    have hS := hS.drew.f3
    refine OA_take 0 rfl (by kernel_rfl) (by kernel_rfl) (by kernel_rfl) rfl rfl ⟨_, hS⟩ (fun w ⟨_, hS⟩ => E_move rfl) ?_
    refine OA_take 1 rfl (by kernel_rfl) (by kernel_rfl) (by kernel_rfl) rfl rfl ⟨_, hS⟩ (fun w ⟨_, hS⟩ => E_fieldAddr rfl) ?_
    refine OA_take 2 rfl (by kernel_rfl) (by kernel_rfl) (by kernel_rfl) rfl rfl ⟨_, hS⟩ (fun w _ => E_slice_array rfl) ?_
    refine OA_take 4 rfl (by kernel_rfl) (by kernel_rfl) (by kernel_rfl) rfl rfl ⟨_, hS⟩ (fun w ⟨_, hS⟩ => E_fieldAddr rfl) ?_
    refine OA_take 5 rfl (by kernel_rfl) (by kernel_rfl) (by kernel_rfl) rfl rfl ⟨_, hS⟩ (fun w h => E_load rfl rfl (vq35 hxi h)) ?_
    refine OA_one 3 rfl (by kernel_rfl) ?_
    have hrs := hS.rdCells (off := 0 + 3) (vs := bvs l[i].sum) (l[i].csum hxi)
    have hS := hS.f1
    refine O_append hS hR rfl rfl (by decide) rfl rfl rfl (news := bvs (l[i].sum)) (by simp [hs]) hrs (bvs_one _) (by (try simp only [List.length_append]); omega) (by (try simp only [List.length_append]); unfold maxLen; omega) (fun v1 R1 w hR hS => ?_)
    have hR := brow_append hR hs.symm
    have hS := hS.f1
    refine O_end ⟨⟨_, hS⟩, ?_⟩
    refine OA_one 6 rfl (by kernel_rfl) ?_
    have hcall := refNum_spec (w0 := w) (x := l[i].f)
    refine O_call rfl rfl rfl hcall (fun r w ⟨G3, hG3, hk⟩ => ?_)
    have hS := hS.after0 hk
    obtain ⟨AG3, cG3, rfl, _⟩ := hG3.form
    have hS := hS.f1
    refine O_end ⟨⟨_, hS⟩, ?_⟩
    refine OA_one 7 rfl (by kernel_rfl) ?_
    obtain ⟨_, _, hq, _, _, hnG3, _⟩ := hG3.rd hS.f1
    cases hq
    have hS := hS.f2
    refine O_append hS hR rfl rfl (by decide) rfl rfl rfl (news := bvs (enc (clampN l[i].f))) (by simp) hnG3 (bvs_one _) (by (try simp only [List.length_append]); omega) (by (try simp only [List.length_append]); unfold maxLen; omega) (fun v1 R1 w hR hS => ?_)
    have hR := brow_append hR rfl
    have hS := hS.f1
    refine O_end ⟨⟨_, hS⟩, ?_⟩
    refine OA_take 8 rfl (by kernel_rfl) (by kernel_rfl) (by kernel_rfl) rfl rfl ⟨_, hS⟩ (fun w ⟨_, hS⟩ => E_assign rfl) ?_
    refine OA_end (by kernel_rfl) ?_
    refine W_region ?_
    refine O_move rfl rfl rfl ?_
    refine O_fieldAddr rfl rfl rfl ?_
    refine O_slice_array rfl rfl rfl ?_
    have hrs := hS.rdCells (off := 0 + 36) (vs := bvs l[i].tag) (l[i].ctag hxi)
    have hS := hS.f1
    refine O_append hS hR rfl rfl (by decide) rfl rfl rfl (news := bvs (l[i].tag)) (by simp [ht]) hrs (bvs_one _) (by (try simp only [List.length_append]); omega) (by (try simp only [List.length_append]); unfold maxLen; omega) (fun v1 R1 w hR hS => ?_)
    have hR := brow_append hR ht.symm
    have hS := hS.keep1
    refine O_assign rfl rfl rfl ?_
    refine O_end ?_
    refine W_region ?_
    refine O_move rfl rfl rfl ?_
    refine O_bin rfl rfl rfl rfl (i64_succ i (by omega)) ?_
    refine O_assign rfl rfl rfl ?_
    refine O_end ?_
    refine ⟨(i + 1, v1, R1), ⟨rfl, rfl, rfl, trivial⟩, ⟨hlt, ?_, hS⟩, by dsimp only; omega⟩
    dsimp only
    have e : enc (clampN (l.length : Int)) ++ (l.take (i + 1)).flatMap Vt.layb = enc (clampN (l.length : Int)) ++ (l.take i).flatMap Vt.layb ++ encs [l[i].k, l[i].s, l[i].v] ++ l[i].sum ++ enc (clampN l[i].f) ++ l[i].tag := by
      rw [List.take_succ_eq_append_getElem hlt, List.flatMap_append]
      simp [Vt.layb, enc_one, List.append_assoc]
    rw [e]
    exact hR
  · skip
    refine W_exit ?_
    refine W_seq ?_
    refine W_region ?_
    refine O_move rfl rfl rfl ?_
    refine O_assign rfl rfl rfl ?_
    refine O_end ?_
    refine W_ret ⟨_, rfl, ?_⟩
    have hi' : i = l.length := by have := of_decide_eq_false c12; omega
    rw [hi', List.take_length] at hR
    refine ⟨R1, ?_, hS⟩
    have e : votesb l = enc (clampN (l.length : Int)) ++ l.flatMap Vt.layb := by simp [votesb, enc_one]
    rw [e]
    exact hR

set_option maxHeartbeats 400000 in
theorem refBody_spec {w0 : World} {m : Mg} (hm : m.ok w0) (hx : m.x.length ≤ 10000) (hl : m.l.length ≤ 1000) : Calls Try.prog 10 #[.agg m.cs.toArray] w0 (Ret fun r w => ∃ G, BRow r m.body G ∧ St w0 [] [G] w) := by
  have hS : Own [] w0 := St.start w0
  have hl3 := encs_len [4, m.k, m.f, m.s, m.v]
  simp only [List.length_cons, List.length_nil] at hl3
  have her := encRow_len m.x (by omega)
  have hvl := votesb_len m.l hm.votes
  refine calls_enter (l := [.agg m.cs.toArray]) Try.func10 rfl Try.ntmps10 Try.results10 (Nat.le_of_ble_eq_true rfl) ?_
  refine W_seq ?_
  refine W_region ?_
  refine O_box hS rfl rfl rfl (fun b1 w hS => ?_)
  refine O_assign rfl rfl rfl ?_
  refine O_end ?_
  refine W_seq ?_
  refine W_region ?_
  refine O_fieldAddr rfl rfl rfl ?_
  refine O_load rfl rfl rfl rfl (hS.cell m.c0) ?_
  refine O_fieldAddr rfl rfl rfl ?_
  refine O_load rfl rfl rfl rfl (hS.cell m.c1) ?_
  refine O_fieldAddr rfl rfl rfl ?_
  refine O_load rfl rfl rfl rfl (hS.cell m.c3) ?_
  refine O_fieldAddr rfl rfl rfl ?_
  refine O_load rfl rfl rfl rfl (hS.cell m.c4) ?_
  refine O_lit hS rfl rfl rfl rfl rfl rfl (Nat.le_of_ble_eq_true rfl) (fun b12 w hS => ?_)
  have hn := hS.rdAll
  have hcall := refNums_spec (ns := [4, m.k, m.f, m.s, m.v]) (c := 5) hn (by simp)
  refine O_call rfl rfl rfl hcall (fun r w ⟨G, hG, hk⟩ => ?_)
  have hS := hS.after0 hk
  obtain ⟨AG, cG, rfl, _⟩ := hG.form
  have hR := hG
  refine O_assign rfl rfl rfl ?_
  refine O_end ?_
  refine W_seq ?_
  refine W_drawn (fun w => ∃ Gs, St w0 [] ([mcell b1 m] ++ Gs) w) ?_
  have hS := hS.drew.f2
  refine OA_take 0 rfl (by kernel_rfl) (by kernel_rfl) (by kernel_rfl) rfl rfl ⟨_, hS⟩ (fun w ⟨_, hS⟩ => E_move rfl) ?_
  refine OA_take 1 rfl (by kernel_rfl) (by kernel_rfl) (by kernel_rfl) rfl rfl ⟨_, hS⟩ (fun w ⟨_, hS⟩ => E_fieldAddr rfl) ?_
  refine OA_take 2 rfl (by kernel_rfl) (by kernel_rfl) (by kernel_rfl) rfl rfl ⟨_, hS⟩ (fun w h => E_load rfl rfl (mq5 h)) ?_
  refine OA_take 5 rfl (by kernel_rfl) (by kernel_rfl) (by kernel_rfl) rfl rfl ⟨_, hS⟩ (fun w ⟨_, hS⟩ => E_fieldAddr rfl) ?_
  refine OA_take 6 rfl (by kernel_rfl) (by kernel_rfl) (by kernel_rfl) rfl rfl ⟨_, hS⟩ (fun w h => E_load rfl rfl (mq6 h)) ?_
  refine OA_one 3 rfl (by kernel_rfl) ?_
  have hcall := refBytes_spec (c := m.c) (hS.rd hm.x (Apart.of_nil _ _)) (by omega)
  refine O_call rfl rfl rfl hcall (fun r w ⟨G2, hG2, hk⟩ => ?_)
  have hS := hS.after0 hk
  obtain ⟨AG2, cG2, rfl, _⟩ := hG2.form
  have hS := hS.f1
  refine O_end ⟨⟨_, hS⟩, ?_⟩
  refine OA_one 4 rfl (by kernel_rfl) ?_
  obtain ⟨_, _, hq, _, _, hnG2, _⟩ := hG2.rd hS.f1
  cases hq
  have hS := hS.f2
  refine O_append hS hR rfl rfl (by decide) rfl rfl rfl (news := bvs (encRow m.x)) (by simp) hnG2 (bvs_one _) (by (try simp only [List.length_append]); omega) (by (try simp only [List.length_append]); unfold maxLen; omega) (fun v1 R1 w hR hS => ?_)
  have hR := brow_append hR rfl
  have hS := hS.f1
  refine O_end ⟨⟨_, hS⟩, ?_⟩
  refine OA_one 7 rfl (by kernel_rfl) ?_
  have hcall := refVotes_spec (d := m.d) (hS.rd hm.l (Apart.of_nil _ _)) hm.votes hl
  refine O_call rfl rfl rfl hcall (fun r w ⟨G3, hG3, hk⟩ => ?_)
  have hS := hS.after0 hk
  obtain ⟨AG3, cG3, rfl, _⟩ := hG3.form
  have hS := hS.f1
  refine O_end ⟨⟨_, hS⟩, ?_⟩
  refine OA_one 8 rfl (by kernel_rfl) ?_
  obtain ⟨_, _, hq, _, _, hnG3, _⟩ := hG3.rd hS.f1
  cases hq
  have hS := hS.f2
  refine O_append hS hR rfl rfl (by decide) rfl rfl rfl (news := bvs (votesb m.l)) (by simp) hnG3 (bvs_one _) (by (try simp only [List.length_append]); omega) (by (try simp only [List.length_append]); unfold maxLen; omega) (fun v1 R1 w hR hS => ?_)
  have hR := brow_append hR rfl
  have hS := hS.f1
  refine O_end ⟨⟨_, hS⟩, ?_⟩
  refine OA_take 9 rfl (by kernel_rfl) (by kernel_rfl) (by kernel_rfl) rfl rfl ⟨_, hS⟩ (fun w ⟨_, hS⟩ => E_assign rfl) ?_
  refine OA_end (by kernel_rfl) ?_
  refine W_ret ⟨_, rfl, ?_⟩
  refine ⟨R1, ?_, hS.f1.keep1⟩
  have e : m.body = encs [4, m.k, m.f, m.s, m.v] ++ encRow m.x ++ votesb m.l := by simp [Mg.body, List.append_assoc]
  rw [e]
  exact hR

end Go.Proofs.Ytaglgnjamihdnaa.R
