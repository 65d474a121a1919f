/- Two messages that may be, and are unlike in what is sealed, have unlike bodies; two votes, too: the law's walk. -/
import Derived.Test.YtaglgnjamihdnaaWi
namespace Go.Proofs.Ytaglgnjamihdnaa.R
open Go Go.RowKit Go.Proofs
set_option linter.unusedVariables false
set_option linter.unusedSimpArgs false
set_option maxRecDepth 20000

theorem St.sink5 {w0 w : World} {F : List Nat} {G a b c d e : List Chunk} {Gs : List (List Chunk)} (h : St w0 F (G :: a :: b :: c :: d :: e :: Gs) w) : St w0 F (a :: b :: c :: d :: e :: G :: Gs) w :=
  h.ofPerm (List.perm_middle (l₁ := [a, b, c, d, e])).symm
theorem same_body {m n : Mg} {w w' : World} (hm : m.ok w) (hn : n.ok w') (om : msgok m = true) (on : msgok n = true) : (decide (m.body = n.body) == samemsg m (n.turned m.to m.tag)) = true := by
  rw [beq_iff_eq, Bool.eq_iff_iff, decide_eq_true_eq, body_iff hm hn om on]
  simp only [samemsg, Mg.turned, Bool.and_eq_true, beq_iff_eq, decide_eq_true_eq]
  constructor
  · rintro ⟨h1, h2, h3, h4, h5, h6⟩
    exact ⟨h1, h2, trivial, h3, h4, decide_eq_true h5, decide_eq_true h6, trivial⟩
  · rintro ⟨h1, h2, _, h3, h4, h5, h6, _⟩
    exact ⟨h1, h2, h3, h4, of_decide_eq_true h5, of_decide_eq_true h6⟩
theorem same_vote {x y : Vt} (hx : x.ok) (hy : y.ok) (ox : voteok x = true) (oy : voteok y = true) : (decide (x.sealb = (y.turned x.tag).sealb) == decide (x = y.turned x.tag)) = true := by
  have h := sealb_iff hx hy ox oy
  rw [beq_iff_eq, decide_eq_decide]
  exact h

set_option maxHeartbeats 2000000 in
theorem wireApart_spec {w0 : World} {a b : Mg} {v u : Vt} (ha : a.ok w0) (hb : b.ok w0) (hv : v.ok) (hu : u.ok) : Calls Try.prog 4 #[.agg a.cs.toArray, .agg b.cs.toArray, .agg v.cs.toArray, .agg u.cs.toArray] w0 (Ret fun r w => r = .bool true ∧ ∃ Gs, St w0 [] Gs w) := by
  have hS : Own [] w0 := St.start w0
  refine calls_enter (l := [.agg a.cs.toArray, .agg b.cs.toArray, .agg v.cs.toArray, .agg u.cs.toArray]) Try.func4 rfl Try.ntmps4 Try.results4 (Nat.le_of_ble_eq_true rfl) ?_
  refine W_seq ?_
  refine W_region ?_
  refine O_box hS rfl rfl rfl (fun b4 w hS => ?_)
  refine O_box hS rfl rfl rfl (fun b5 w hS => ?_)
  refine O_box hS rfl rfl rfl (fun b6 w hS => ?_)
  refine O_box hS rfl rfl rfl (fun b7 w hS => ?_)
  refine O_assign rfl rfl rfl ?_
  refine O_end ?_
  refine W_seq ?_
  refine W_seq ?_
  refine W_region ?_
  refine O_loadAgg (vs := a.cs) rfl rfl rfl rfl (a.len ha) (rd_all hS.f3) ?_
  have hcall := IsMsg_spec (ha.st hS)
  refine O_call rfl rfl rfl hcall (fun r w ⟨hz, hk⟩ => ?_)
  subst hz
  have hS := hS.after0 hk
  refine O_not rfl rfl rfl ?_
  refine O_move rfl rfl rfl ?_
  refine O_part 13 rfl (fun c13 => ?_) (fun c13 => ?_)
  · skip
    refine O_skip rfl rfl ?_
    refine O_skip rfl rfl ?_
    refine O_skip rfl rfl ?_
    first | refine O_pick_true rfl rfl rfl rfl ?_ | refine O_pick_false rfl rfl rfl rfl ?_
    refine O_move rfl rfl rfl ?_
    refine O_know 18 (.bool true) rfl (congrArg Value.bool (rfl)) ?_
    refine O_skip rfl rfl ?_
    refine O_skip rfl rfl ?_
    refine O_skip rfl rfl ?_
    first | refine O_pick_true rfl rfl rfl rfl ?_ | refine O_pick_false rfl rfl rfl rfl ?_
    refine O_move rfl rfl rfl ?_
    refine O_know 23 (.bool true) rfl (congrArg Value.bool (rfl)) ?_
    refine O_skip rfl rfl ?_
    refine O_skip rfl rfl ?_
    refine O_skip rfl rfl ?_
    first | refine O_pick_true rfl rfl rfl rfl ?_ | refine O_pick_false rfl rfl rfl rfl ?_
    refine O_end ?_
    refine W_if_true rfl (rfl) ?_
    refine W_seq ?_
    refine W_region ?_
    refine O_assign rfl rfl rfl ?_
    refine O_end ?_
    refine W_ret ⟨_, rfl, ?_⟩
    exact ⟨rfl, _, hS⟩
  · skip
    refine O_loadAgg (vs := b.cs) rfl rfl rfl rfl (b.len hb) (rd_all hS.f2) ?_
    have hcall := IsMsg_spec (hb.st hS)
    refine O_call rfl rfl rfl hcall (fun r w ⟨hz, hk⟩ => ?_)
    subst hz
    have hS := hS.after0 hk
    refine O_not rfl rfl rfl ?_
    first | refine O_pick_true rfl rfl rfl rfl ?_ | refine O_pick_false rfl rfl rfl rfl ?_
    refine O_move rfl rfl rfl ?_
    refine O_part 18 rfl (fun c18 => ?_) (fun c18 => ?_)
    · skip
      refine O_skip rfl rfl ?_
      refine O_skip rfl rfl ?_
      refine O_skip rfl rfl ?_
      first | refine O_pick_true rfl rfl rfl rfl ?_ | refine O_pick_false rfl rfl rfl rfl ?_
      refine O_move rfl rfl rfl ?_
      refine O_know 23 (.bool true) rfl (congrArg Value.bool (rfl)) ?_
      refine O_skip rfl rfl ?_
      refine O_skip rfl rfl ?_
      refine O_skip rfl rfl ?_
      first | refine O_pick_true rfl rfl rfl rfl ?_ | refine O_pick_false rfl rfl rfl rfl ?_
      refine O_end ?_
      refine W_if_true rfl (rfl) ?_
      refine W_seq ?_
      refine W_region ?_
      refine O_assign rfl rfl rfl ?_
      refine O_end ?_
      refine W_ret ⟨_, rfl, ?_⟩
      exact ⟨rfl, _, hS⟩
    · skip
      refine O_loadAgg (vs := v.cs) rfl rfl rfl rfl (v.len hv) (rd_all hS.f1) ?_
      have hcall := IsVote_spec (w0 := w) hv
      refine O_call rfl rfl rfl hcall (fun r w ⟨hz, hk⟩ => ?_)
      subst hz
      have hS := hS.after0 hk
      refine O_not rfl rfl rfl ?_
      first | refine O_pick_true rfl rfl rfl rfl ?_ | refine O_pick_false rfl rfl rfl rfl ?_
      refine O_move rfl rfl rfl ?_
      refine O_part 23 rfl (fun c23 => ?_) (fun c23 => ?_)
      · skip
        refine O_skip rfl rfl ?_
        refine O_skip rfl rfl ?_
        refine O_skip rfl rfl ?_
        first | refine O_pick_true rfl rfl rfl rfl ?_ | refine O_pick_false rfl rfl rfl rfl ?_
        refine O_end ?_
        refine W_if_true rfl (rfl) ?_
        refine W_seq ?_
        refine W_region ?_
        refine O_assign rfl rfl rfl ?_
        refine O_end ?_
        refine W_ret ⟨_, rfl, ?_⟩
        exact ⟨rfl, _, hS⟩
      · skip
        refine O_loadAgg (vs := u.cs) rfl rfl rfl rfl (u.len hu) (rd_all hS) ?_
        have hcall := IsVote_spec (w0 := w) hu
        refine O_call rfl rfl rfl hcall (fun r w ⟨hz, hk⟩ => ?_)
        subst hz
        have hS := hS.after0 hk
        refine O_not rfl rfl rfl ?_
        first | refine O_pick_true rfl rfl rfl rfl ?_ | refine O_pick_false rfl rfl rfl rfl ?_
        refine O_end ?_
        refine W_if rfl (fun c27 => ?_) (fun c27 => ?_)
        · skip
          refine W_seq ?_
          refine W_region ?_
          refine O_assign rfl rfl rfl ?_
          refine O_end ?_
          refine W_ret ⟨_, rfl, ?_⟩
          exact ⟨rfl, _, hS⟩
        · skip
          refine W_skip ?_
          refine W_seq ?_
          refine W_region ?_
          have oa : msgok a = true := by simpa using c13
          have ob : msgok b = true := by simpa using c18
          have ov : voteok v = true := by simpa using c23
          have ou : voteok u = true := by simpa using c27
          have fa := msgok_fits oa
          have fb := msgok_fits ob
          have fax := fa.x
          have fal := fa.l
          have fbx := fb.x
          have fbl := fb.l
          refine O_loadAgg (vs := b.cs) rfl rfl rfl rfl (b.len hb) (rd_all hS.f2) ?_
          refine O_alloc hS rfl rfl (fun b9 w hS => ?_)
          refine O_storeAgg hS rfl rfl rfl b.one (b.len hb) (Nat.le_of_ble_eq_true rfl) (fun w hS => ?_)
          have hS : St w0 [] ([mcell b9 b, vcell b7 u, vcell b6 v, mcell b5 b, mcell b4 a]) w := (St.whole (vs := b.cs) hS (by rw [b.len hb]; rfl))
          refine O_end ?_
          refine W_seq ?_
          refine W_drawn (fun w => ∃ Gs, St w0 [] ([mcell b4 a] ++ Gs) w) ?_
          have hS := hS.drew.f4
          refine OA_take 0 rfl (by kernel_rfl) (by kernel_rfl) (by kernel_rfl) rfl rfl ⟨_, hS⟩ (fun w ⟨_, hS⟩ => E_fieldAddr rfl) ?_
          refine OA_take 1 rfl (by kernel_rfl) (by kernel_rfl) (by kernel_rfl) rfl rfl ⟨_, hS⟩ (fun w ⟨_, h⟩ => E_load rfl rfl (St.cell h a.c2)) ?_
          refine OA_take 2 rfl (by kernel_rfl) (by kernel_rfl) (by kernel_rfl) rfl rfl ⟨_, hS⟩ (fun w ⟨_, hS⟩ => E_fieldAddr rfl) ?_
          refine OA_take 3 rfl (by kernel_rfl) (by kernel_rfl) (by kernel_rfl) rfl rfl ⟨_, hS⟩ (fun w ⟨_, h⟩ => E_loadAgg (vs := bvs a.tag) rfl rfl (by simp [ha.tag]) (St.rdCells (off := 0 + 7) h a.ctag)) ?_
          refine OA_take 4 rfl (by kernel_rfl) (by kernel_rfl) (by kernel_rfl) rfl rfl ⟨_, hS⟩ (fun w ⟨_, hS⟩ => E_fieldAddr rfl) ?_
          refine OA_one 5 rfl (by kernel_rfl) ?_
          refine O_store hS.f1 rfl rfl rfl rfl (by show 2 < b.cs.length; rw [b.len hb]; decide) (fun w hS => ?_)
          have hS := hS.f1
          refine O_end ⟨⟨_, hS⟩, ?_⟩
          refine OA_take 6 rfl (by kernel_rfl) (by kernel_rfl) (by kernel_rfl) rfl rfl ⟨_, hS⟩ (fun w ⟨_, hS⟩ => E_fieldAddr rfl) ?_
          refine OA_one 7 rfl (by kernel_rfl) ?_
          refine O_storeAgg hS.f1 rfl rfl rfl (bvs_all a.tag) (by simp [ha.tag]) (by show 0 + 7 + 32 ≤ (b.cs.toArray.setIfInBounds _ _).size; rw [Array.size_setIfInBounds]; show 0 + 7 + 32 ≤ b.cs.length; rw [b.len hb]; decide) (fun w hS => ?_)
          have hS := (St.asMsg (m := b) (to := a.to) (g := a.tag) hS (by rw [ha.tag, hb.tag])).f1
          refine O_end ⟨⟨_, hS⟩, ?_⟩
          refine OA_end (by kernel_rfl) ?_
          refine W_seq ?_
          refine W_region ?_
          refine O_fieldAddr rfl rfl rfl ?_
          refine O_loadAgg (vs := bvs v.tag) rfl rfl rfl rfl (by simp [hv.2]) (hS.f3.rdCells (off := 0 + 36) (v.ctag hv)) ?_
          refine O_fieldAddr rfl rfl rfl ?_
          refine O_storeAgg hS.f2 rfl rfl rfl (bvs_all v.tag) (by simp [hv.2]) (by show 0 + 36 + 32 ≤ u.cs.length; rw [u.len hu]; decide) (fun w hS => ?_)
          have hS := (St.asVote (x := u) (g := v.tag) hS hu hv.2).f3.f3.f4.f4
          refine O_end ?_
          refine W_seq ?_
          have qa : ∀ w, (∃ Gs, St w0 [] ([mcell b4 a, mcell b5 b, mcell b9 (b.turned a.to a.tag), vcell b6 v, vcell b7 (u.turned v.tag)] ++ Gs) w) → Rd w (some ⟨b4, 0, none⟩) a.cs := fun w ⟨_, h⟩ => rd_all h
          have qb : ∀ w, (∃ Gs, St w0 [] ([mcell b4 a, mcell b5 b, mcell b9 (b.turned a.to a.tag), vcell b6 v, vcell b7 (u.turned v.tag)] ++ Gs) w) → Rd w (some ⟨b5, 0, none⟩) b.cs := fun w ⟨_, h⟩ => rd_all (St.f1 h)
          have qc : ∀ w, (∃ Gs, St w0 [] ([mcell b4 a, mcell b5 b, mcell b9 (b.turned a.to a.tag), vcell b6 v, vcell b7 (u.turned v.tag)] ++ Gs) w) → Rd w (some ⟨b9, 0, none⟩) (b.turned a.to a.tag).cs := fun w ⟨_, h⟩ => rd_all (St.f2 h)
          have qv : ∀ w, (∃ Gs, St w0 [] ([mcell b4 a, mcell b5 b, mcell b9 (b.turned a.to a.tag), vcell b6 v, vcell b7 (u.turned v.tag)] ++ Gs) w) → Rd w (some ⟨b6, 0, none⟩) v.cs := fun w ⟨_, h⟩ => rd_all (St.f3 h)
          have qu : ∀ w, (∃ Gs, St w0 [] ([mcell b4 a, mcell b5 b, mcell b9 (b.turned a.to a.tag), vcell b6 v, vcell b7 (u.turned v.tag)] ++ Gs) w) → Rd w (some ⟨b7, 0, none⟩) (u.turned v.tag).cs := fun w ⟨_, h⟩ => rd_all (St.f4 h)
          refine W_drawn (fun w => (∃ Gs, St w0 [] ([mcell b4 a, mcell b5 b, mcell b9 (b.turned a.to a.tag), vcell b6 v, vcell b7 (u.turned v.tag)] ++ Gs) w)) ?_
          have hS := hS.drew
          refine OA_take 0 rfl (by kernel_rfl) (by kernel_rfl) (by kernel_rfl) rfl rfl ⟨_, hS⟩ (fun w h => E_loadAgg (vs := a.cs) rfl rfl (a.len ha) (qa w h)) ?_
          refine OA_take 3 rfl (by kernel_rfl) (by kernel_rfl) (by kernel_rfl) rfl rfl ⟨_, hS⟩ (fun w h => E_loadAgg (vs := b.cs) rfl rfl (b.len hb) (qb w h)) ?_
          refine OA_take 7 rfl (by kernel_rfl) (by kernel_rfl) (by kernel_rfl) rfl rfl ⟨_, hS⟩ (fun w h => E_loadAgg (vs := a.cs) rfl rfl (a.len ha) (qa w h)) ?_
          refine OA_take 8 rfl (by kernel_rfl) (by kernel_rfl) (by kernel_rfl) rfl rfl ⟨_, hS⟩ (fun w h => E_loadAgg (vs := (b.turned a.to a.tag).cs) rfl rfl ((b.turned a.to a.tag).len (hb.turned a.to ha.tag)) (qc w h)) ?_
          refine OA_one 1 rfl (by kernel_rfl) ?_
          have hcall := body_spec (ha.st hS) (by omega) (by omega)
          refine O_call rfl rfl rfl hcall (fun r w ⟨G1, hG1, hk⟩ => ?_)
          have hS := hS.after0 hk
          obtain ⟨AG1, cG1, rfl, _⟩ := hG1.form
          have hnG1 := own_bytes hG1 hS
          have hS := hS.sink5
          refine O_end ⟨⟨_, hS⟩, ?_⟩
          refine OA_class (fun w => (∃ Gs, St w0 [] ([mcell b4 a, mcell b5 b, mcell b9 (b.turned a.to a.tag), vcell b6 v, vcell b7 (u.turned v.tag)] ++ Gs) w) ∧ Rd w AG1 (bvs a.body)) (fun w h => h.1) ?_
          refine OA_take 2 rfl (by kernel_rfl) (by kernel_rfl) (by kernel_rfl) rfl rfl ⟨⟨_, hS⟩, hnG1⟩ (fun w h => E_str rfl h.2) ?_
          refine OA_one 4 rfl (by kernel_rfl) ?_
          have hcall := body_spec (hb.st hS) (by omega) (by omega)
          refine O_call rfl rfl rfl hcall (fun r w ⟨G2, hG2, hk⟩ => ?_)
          have hS := hS.after0 hk
          have hnG1 := hk.rd hnG1 (Apart.of_nil _ _)
          obtain ⟨AG2, cG2, rfl, _⟩ := hG2.form
          have hnG2 := own_bytes hG2 hS
          have hS := hS.sink5
          refine O_end ⟨⟨⟨_, hS⟩, hnG1⟩, ?_⟩
          refine OA_class (fun w => ((∃ Gs, St w0 [] ([mcell b4 a, mcell b5 b, mcell b9 (b.turned a.to a.tag), vcell b6 v, vcell b7 (u.turned v.tag)] ++ Gs) w) ∧ Rd w AG1 (bvs a.body)) ∧ Rd w AG2 (bvs b.body)) (fun w h => h.1) ?_
          refine OA_take 5 rfl (by kernel_rfl) (by kernel_rfl) (by kernel_rfl) rfl rfl ⟨⟨⟨_, hS⟩, hnG1⟩, hnG2⟩ (fun w h => E_str rfl h.2) ?_
          refine OA_take 6 rfl (by kernel_rfl) (by kernel_rfl) (by kernel_rfl) rfl rfl ⟨⟨⟨_, hS⟩, hnG1⟩, hnG2⟩ (fun w h => E_eql_str rfl rfl (strOf_eq _ _)) ?_
          refine OA_one 9 rfl (by kernel_rfl) ?_
          have hcall := sameMsg_spec (ha.st hS) ((hb.st hS).turned a.to ha.tag) (by omega)
          refine O_call rfl rfl rfl hcall (fun r w ⟨hz, hk⟩ => ?_)
          subst hz
          have hS := hS.after0 hk
          have hnG1 := hk.rd hnG1 (Apart.of_nil _ _)
          have hnG2 := hk.rd hnG2 (Apart.of_nil _ _)
          refine O_end ⟨⟨⟨⟨_, hS⟩, hnG1⟩, hnG2⟩, ?_⟩
          refine OA_one 10 rfl (by kernel_rfl) ?_
          refine O_eql_bool rfl rfl rfl rfl ?_
          refine O_know 48 (.bool true) rfl (congrArg Value.bool (same_body ha hb oa ob)) ?_
          refine O_end ⟨⟨⟨⟨_, hS⟩, hnG1⟩, hnG2⟩, ?_⟩
          refine OA_take 11 rfl (by kernel_rfl) (by kernel_rfl) (by kernel_rfl) rfl rfl ⟨⟨⟨_, hS⟩, hnG1⟩, hnG2⟩ (fun w hw => E_move rfl) ?_
          refine OA_take 12 rfl (by kernel_rfl) (by kernel_rfl) (by kernel_rfl) rfl rfl ⟨⟨⟨_, hS⟩, hnG1⟩, hnG2⟩ (fun w h => E_loadAgg (vs := v.cs) rfl rfl (v.len hv) (qv w h.1.1)) ?_
          refine OA_take 15 rfl (by kernel_rfl) (by kernel_rfl) (by kernel_rfl) rfl rfl ⟨⟨⟨_, hS⟩, hnG1⟩, hnG2⟩ (fun w h => E_loadAgg (vs := (u.turned v.tag).cs) rfl rfl ((u.turned v.tag).len (hu.turned hv.2)) (qu w h.1.1)) ?_
          refine OA_take 19 rfl (by kernel_rfl) (by kernel_rfl) (by kernel_rfl) rfl rfl ⟨⟨⟨_, hS⟩, hnG1⟩, hnG2⟩ (fun w h => E_loadAgg (vs := v.cs) rfl rfl (v.len hv) (qv w h.1.1)) ?_
          refine OA_take 20 rfl (by kernel_rfl) (by kernel_rfl) (by kernel_rfl) rfl rfl ⟨⟨⟨_, hS⟩, hnG1⟩, hnG2⟩ (fun w h => E_loadAgg (vs := (u.turned v.tag).cs) rfl rfl ((u.turned v.tag).len (hu.turned hv.2)) (qu w h.1.1)) ?_
          refine OA_take 21 rfl (by kernel_rfl) (by kernel_rfl) (by kernel_rfl) rfl rfl ⟨⟨⟨_, hS⟩, hnG1⟩, hnG2⟩ (fun w h => E_eql_agg rfl rfl (by kernel_rfl) (fun w => eq_vote v (u.turned v.tag) hv (hu.turned hv.2) w)) ?_
          refine OA_one 13 rfl (by kernel_rfl) ?_
          have hcall := voteBody_spec (w0 := w) hv
          refine O_call rfl rfl rfl hcall (fun r w ⟨G3, hG3, hk⟩ => ?_)
          have hS := hS.after0 hk
          have hnG1 := hk.rd hnG1 (Apart.of_nil _ _)
          have hnG2 := hk.rd hnG2 (Apart.of_nil _ _)
          obtain ⟨AG3, cG3, rfl, _⟩ := hG3.form
          have hnG3 := own_bytes hG3 hS
          have hS := hS.sink5
          refine O_end ⟨⟨⟨⟨_, hS⟩, hnG1⟩, hnG2⟩, ?_⟩
          refine OA_class (fun w => (((∃ Gs, St w0 [] ([mcell b4 a, mcell b5 b, mcell b9 (b.turned a.to a.tag), vcell b6 v, vcell b7 (u.turned v.tag)] ++ Gs) w) ∧ Rd w AG1 (bvs a.body)) ∧ Rd w AG2 (bvs b.body)) ∧ Rd w AG3 (bvs v.sealb)) (fun w h => h.1) ?_
          refine OA_take 14 rfl (by kernel_rfl) (by kernel_rfl) (by kernel_rfl) rfl rfl ⟨⟨⟨⟨_, hS⟩, hnG1⟩, hnG2⟩, hnG3⟩ (fun w h => E_str rfl h.2) ?_
          refine OA_one 16 rfl (by kernel_rfl) ?_
          have hcall := voteBody_spec (w0 := w) (hu.turned hv.2)
          refine O_call rfl rfl rfl hcall (fun r w ⟨G4, hG4, hk⟩ => ?_)
          have hS := hS.after0 hk
          have hnG1 := hk.rd hnG1 (Apart.of_nil _ _)
          have hnG2 := hk.rd hnG2 (Apart.of_nil _ _)
          have hnG3 := hk.rd hnG3 (Apart.of_nil _ _)
          obtain ⟨AG4, cG4, rfl, _⟩ := hG4.form
          have hnG4 := own_bytes hG4 hS
          have hS := hS.sink5
          refine O_end ⟨⟨⟨⟨⟨_, hS⟩, hnG1⟩, hnG2⟩, hnG3⟩, ?_⟩
          refine OA_class (fun w => ((((∃ Gs, St w0 [] ([mcell b4 a, mcell b5 b, mcell b9 (b.turned a.to a.tag), vcell b6 v, vcell b7 (u.turned v.tag)] ++ Gs) w) ∧ Rd w AG1 (bvs a.body)) ∧ Rd w AG2 (bvs b.body)) ∧ Rd w AG3 (bvs v.sealb)) ∧ Rd w AG4 (bvs (u.turned v.tag).sealb)) (fun w h => h.1) ?_
          refine OA_take 17 rfl (by kernel_rfl) (by kernel_rfl) (by kernel_rfl) rfl rfl ⟨⟨⟨⟨⟨_, hS⟩, hnG1⟩, hnG2⟩, hnG3⟩, hnG4⟩ (fun w h => E_str rfl h.2) ?_
          refine OA_take 18 rfl (by kernel_rfl) (by kernel_rfl) (by kernel_rfl) rfl rfl ⟨⟨⟨⟨⟨_, hS⟩, hnG1⟩, hnG2⟩, hnG3⟩, hnG4⟩ (fun w h => E_eql_str rfl rfl (strOf_eq _ _)) ?_
          refine OA_one 22 rfl (by kernel_rfl) ?_
          refine O_eql_bool rfl rfl rfl rfl ?_
          refine O_know 60 (.bool true) rfl (congrArg Value.bool (same_vote hv hu ov ou)) ?_
          refine O_end ⟨⟨⟨⟨⟨⟨_, hS⟩, hnG1⟩, hnG2⟩, hnG3⟩, hnG4⟩, ?_⟩
          first | refine OA_take 23 rfl (by kernel_rfl) (by kernel_rfl) (by kernel_rfl) rfl rfl ⟨⟨⟨⟨⟨_, hS⟩, hnG1⟩, hnG2⟩, hnG3⟩, hnG4⟩ (fun w hw => E_pick_true rfl rfl) ?_ | refine OA_take 23 rfl (by kernel_rfl) (by kernel_rfl) (by kernel_rfl) rfl rfl ⟨⟨⟨⟨⟨_, hS⟩, hnG1⟩, hnG2⟩, hnG3⟩, hnG4⟩ (fun w hw => E_pick_false rfl rfl) ?_
          refine OA_take 24 rfl (by kernel_rfl) (by kernel_rfl) (by kernel_rfl) rfl rfl ⟨⟨⟨⟨⟨_, hS⟩, hnG1⟩, hnG2⟩, hnG3⟩, hnG4⟩ (fun w hw => E_move rfl) ?_
          refine OA_one 25 rfl (by kernel_rfl) ?_
          have hcall := known_spec (w0 := w)
          refine O_call rfl rfl rfl hcall (fun r w ⟨hz, hk⟩ => ?_)
          subst hz
          have hS := hS.after0 hk
          have hnG1 := hk.rd hnG1 (Apart.of_nil _ _)
          have hnG2 := hk.rd hnG2 (Apart.of_nil _ _)
          have hnG3 := hk.rd hnG3 (Apart.of_nil _ _)
          have hnG4 := hk.rd hnG4 (Apart.of_nil _ _)
          refine O_end ⟨⟨⟨⟨⟨⟨_, hS⟩, hnG1⟩, hnG2⟩, hnG3⟩, hnG4⟩, ?_⟩
          first | refine OA_take 26 rfl (by kernel_rfl) (by kernel_rfl) (by kernel_rfl) rfl rfl ⟨⟨⟨⟨⟨_, hS⟩, hnG1⟩, hnG2⟩, hnG3⟩, hnG4⟩ (fun w hw => E_pick_true rfl rfl) ?_ | refine OA_take 26 rfl (by kernel_rfl) (by kernel_rfl) (by kernel_rfl) rfl rfl ⟨⟨⟨⟨⟨_, hS⟩, hnG1⟩, hnG2⟩, hnG3⟩, hnG4⟩ (fun w hw => E_pick_false rfl rfl) ?_
          refine OA_take 27 rfl (by kernel_rfl) (by kernel_rfl) (by kernel_rfl) rfl rfl ⟨⟨⟨⟨⟨_, hS⟩, hnG1⟩, hnG2⟩, hnG3⟩, hnG4⟩ (fun w hw => E_assign rfl) ?_
          refine OA_end (by kernel_rfl) ?_
          refine W_ret ⟨_, rfl, ?_⟩
          exact ⟨rfl, _, hS⟩

end Go.Proofs.Ytaglgnjamihdnaa.R
