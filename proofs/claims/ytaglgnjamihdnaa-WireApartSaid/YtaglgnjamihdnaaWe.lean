/- What is sealed of any message and vote: the law's walk. -/
import Derived.Test.YtaglgnjamihdnaaWd
namespace Go.Proofs.Ytaglgnjamihdnaa.R
open Go Go.RowKit Go.Proofs
set_option linter.unusedVariables false
set_option linter.unusedSimpArgs false
set_option maxRecDepth 20000

abbrev hcell (b : Nat) (g : List UInt8) : List Chunk := [(b, .cells (bvs g).toArray 25 (0, 0))]
theorem bvs_all (g : List UInt8) : (bvs g).all (·.oneCell') = true := by rw [List.all_eq_true]; exact fun v hv => bvs_one _ v hv
def Mg.turned (m : Mg) (to : Int) (g : List UInt8) : Mg := { m with to := to, tag := g }
def Vt.turned (x : Vt) (g : List UInt8) : Vt := { x with tag := g }
theorem turn_msg (m : Mg) (to : Int) (g : List UInt8) (hg : g.length = m.tag.length) : setCells (m.cs.toArray.setIfInBounds 2 (iv to)) 7 (bvs g) = (m.turned to g).cs.toArray := by
  have h := setCells_tail [iv m.k, iv m.f, iv to, iv m.s, iv m.v, .slice m.A m.x.length m.c, .slice m.B m.l.length m.d] (bvs m.tag) (bvs g) (by simp [hg])
  have e1 : m.cs.toArray.setIfInBounds 2 (iv to) = ([iv m.k, iv m.f, iv to, iv m.s, iv m.v, .slice m.A m.x.length m.c, .slice m.B m.l.length m.d] ++ bvs m.tag).toArray := by simp [Mg.cs]
  rw [e1]
  exact h
theorem turn_vote (x : Vt) (g : List UInt8) (hx : x.ok) (hg : g.length = 32) : setCells x.cs.toArray 36 (bvs g) = (x.turned g).cs.toArray := by
  have h := setCells_tail (iv x.k :: iv x.s :: iv x.v :: (bvs x.sum ++ [iv x.f])) (bvs x.tag) (bvs g) (by simp [hg, hx.2])
  have e0 : (iv x.k :: iv x.s :: iv x.v :: (bvs x.sum ++ [iv x.f])).length = 36 := by simp [hx.1]
  rw [e0] at h
  have e1 : x.cs.toArray = ((iv x.k :: iv x.s :: iv x.v :: (bvs x.sum ++ [iv x.f])) ++ bvs x.tag).toArray := by simp [Vt.cs]
  have e2 : (x.turned g).cs.toArray = ((iv x.k :: iv x.s :: iv x.v :: (bvs x.sum ++ [iv x.f])) ++ bvs g).toArray := by simp [Vt.cs, Vt.turned]
  rw [e1, e2]
  exact h
theorem St.asMsg {w0 w : World} {F : List Nat} {Gs : List (List Chunk)} {b : Nat} {m : Mg} {to : Int} {g : List UInt8} (h : St w0 F ([(b, .cells (setCells (m.cs.toArray.setIfInBounds 2 (iv to)) 7 (bvs g)) 27 (0, 0))] :: Gs) w) (hg : g.length = m.tag.length) : St w0 F (mcell b (m.turned to g) :: Gs) w := by
  rw [turn_msg m to g hg] at h
  exact h
theorem St.asVote {w0 w : World} {F : List Nat} {Gs : List (List Chunk)} {b : Nat} {x : Vt} {g : List UInt8} (h : St w0 F ([(b, .cells (setCells x.cs.toArray 36 (bvs g)) 29 (0, 0))] :: Gs) w) (hx : x.ok) (hg : g.length = 32) : St w0 F (vcell b (x.turned g) :: Gs) w := by
  rw [turn_vote x g hx hg] at h
  exact h
theorem Mg.ok.turned {m : Mg} {w : World} (h : m.ok w) (to : Int) {g : List UInt8} (hg : g.length = 32) : (m.turned to g).ok w := ⟨h.x, h.l, h.votes, hg⟩
theorem Vt.ok.turned {x : Vt} (h : x.ok) {g : List UInt8} (hg : g.length = 32) : (x.turned g).ok := ⟨h.1, hg⟩
theorem rd_all {w0 w : World} {F : List Nat} {Gs : List (List Chunk)} {b : Nat} {vs : List Value} {e : TypeId} (h : St w0 F ([(b, .cells vs.toArray e (0, 0))] :: Gs) w) : Rd w (some ⟨b, 0, none⟩) vs := h.rdAll
theorem own_bytes {w0 w : World} {Gs : List (List Chunk)} {A : Option Addr} {c : Nat} {bs : List UInt8} {G : List Chunk} (hG : BRow (.slice A bs.length c) bs G) (h : St w0 [] (G :: Gs) w) : Rd w A (bvs bs) := by
  obtain ⟨_, _, hq, _, _, hn, _⟩ := hG.rd h
  cases hq
  exact hn

theorem long_spec {w0 : World} {m : Mg} : Calls Try.prog 7 #[.agg m.cs.toArray] w0 (Ret fun r w => r = .bool (decide ((m.x.length : Int) > 500) || decide ((m.l.length : Int) > 20)) ∧ St w0 [] [] w) := by
  have hS : Own [] w0 := St.start w0
  refine calls_enter (l := [.agg m.cs.toArray]) Try.func7 rfl Try.ntmps7 Try.results7 (Nat.le_of_ble_eq_true rfl) ?_
  refine W_seq ?_
  refine W_region ?_
  refine O_box hS rfl rfl rfl (fun b1 w hS => ?_)
  refine O_assign rfl rfl rfl ?_
  refine O_end ?_
  refine W_seq ?_
  refine W_region ?_
  refine O_fieldAddr rfl rfl rfl ?_
  refine O_load rfl rfl rfl rfl (hS.cell m.c5) ?_
  refine O_len rfl rfl rfl rfl ?_
  refine O_bin rfl rfl rfl rfl rfl ?_
  refine O_move rfl rfl rfl ?_
  refine O_part 7 rfl (fun c7 => ?_) (fun c7 => ?_)
  · skip
    refine O_skip rfl rfl ?_
    refine O_skip rfl rfl ?_
    refine O_skip rfl rfl ?_
    refine O_skip rfl rfl ?_
    first | refine O_pick_true rfl rfl rfl rfl ?_ | refine O_pick_false rfl rfl rfl rfl ?_
    refine O_assign rfl rfl rfl ?_
    refine O_end ?_
    refine W_ret ⟨_, rfl, ?_⟩
    refine ⟨congrArg Value.bool ?_, hS.bare⟩
    simp_all
    all_goals (intro h; omega)
  · skip
    refine O_fieldAddr rfl rfl rfl ?_
    refine O_load rfl rfl rfl rfl (hS.cell m.c6) ?_
    refine O_len rfl rfl rfl rfl ?_
    refine O_bin rfl rfl rfl rfl rfl ?_
    first | refine O_pick_true rfl rfl rfl rfl ?_ | refine O_pick_false rfl rfl rfl rfl ?_
    refine O_assign rfl rfl rfl ?_
    refine O_end ?_
    refine W_ret ⟨_, rfl, ?_⟩
    refine ⟨congrArg Value.bool ?_, hS.bare⟩
    simp_all
    all_goals (intro h; omega)

set_option maxHeartbeats 2000000 in
theorem wireBodies_spec {w0 : World} {m : Mg} {v : Vt} {to : Int} {g : List UInt8} (hm : m.ok w0) (hv : v.ok) (hg : g.length = 32) : Calls Try.prog 3 #[.agg m.cs.toArray, .agg v.cs.toArray, .int .i64 to, .agg (bvs g).toArray] w0 (Ret fun r w => r = .bool true ∧ ∃ Gs, St w0 [] Gs w) := by
  have hS : Own [] w0 := St.start w0
  refine calls_enter (l := [.agg m.cs.toArray, .agg v.cs.toArray, .int .i64 to, .agg (bvs g).toArray]) Try.func3 rfl Try.ntmps3 Try.results3 (Nat.le_of_ble_eq_true rfl) ?_
  refine W_seq ?_
  refine W_region ?_
  refine O_box hS rfl rfl rfl (fun b4 w hS => ?_)
  refine O_box hS rfl rfl rfl (fun b5 w hS => ?_)
  refine O_box hS rfl rfl rfl (fun b7 w hS => ?_)
  refine O_assign rfl rfl rfl ?_
  refine O_end ?_
  refine W_seq ?_
  refine W_seq ?_
  refine W_region ?_
  refine O_loadAgg (vs := m.cs) rfl rfl rfl rfl (m.len hm) (rd_all hS.f2) ?_
  have hcall := long_spec (w0 := w) (m := m)
  refine O_call rfl rfl rfl hcall (fun r w ⟨hz, hk⟩ => ?_)
  subst hz
  have hS := hS.after0 hk
  refine O_end ?_
  refine W_if rfl (fun c14 => ?_) (fun c14 => ?_)
  · skip
    refine W_seq ?_
    refine W_region ?_
    refine O_assign rfl rfl rfl ?_
    refine O_end ?_
    refine W_ret ⟨_, rfl, ?_⟩
    exact ⟨rfl, _, hS⟩
  · skip
    refine W_skip ?_
    refine W_seq ?_
    refine W_region ?_
    have hxl : m.x.length ≤ 500 ∧ m.l.length ≤ 20 := by
      have := c14
      simp only [Bool.or_eq_false_iff, decide_eq_false_iff_not] at this
      omega
    refine O_loadAgg (vs := m.cs) rfl rfl rfl rfl (m.len hm) (rd_all hS.f2) ?_
    have hcall := body_spec (hm.st hS) (by omega) (by omega)
    refine O_call rfl rfl rfl hcall (fun r w ⟨G9, hG9, hk⟩ => ?_)
    have hS := hS.after0 hk
    obtain ⟨AG9, cG9, rfl, _⟩ := hG9.form
    refine O_assign rfl rfl rfl ?_
    refine O_end ?_
    refine W_seq ?_
    refine W_region ?_
    refine O_loadAgg (vs := v.cs) rfl rfl rfl rfl (v.len hv) (rd_all hS.f2) ?_
    have hcall := voteBody_spec (w0 := w) hv
    refine O_call rfl rfl rfl hcall (fun r w ⟨G10, hG10, hk⟩ => ?_)
    have hS := hS.after0 hk
    obtain ⟨AG10, cG10, rfl, _⟩ := hG10.form
    have hS : St w0 [] ([mcell b4 m, vcell b5 v, G10, G9, hcell b7 g]) w := hS.f4.f4.f1
    refine O_assign rfl rfl rfl ?_
    refine O_end ?_
    refine W_seq ?_
    refine W_drawn (fun w => ∃ Gs, St w0 [] ([mcell b4 m, vcell b5 v] ++ Gs) w) ?_
    have hS := hS.drew
    refine OA_take 0 rfl (by kernel_rfl) (by kernel_rfl) (by kernel_rfl) rfl rfl ⟨_, hS⟩ (fun w ⟨_, h⟩ => E_loadAgg (vs := m.cs) rfl rfl (m.len hm) (rd_all h)) ?_
    refine OA_take 1 rfl (by kernel_rfl) (by kernel_rfl) (by kernel_rfl) rfl rfl ⟨_, hS⟩ (fun w ⟨_, h⟩ => E_loadAgg (vs := v.cs) rfl rfl (v.len hv) (rd_all (St.f1 h))) ?_
    refine OA_two 2 3 rfl rfl (by kernel_rfl) ?_ ?_
    · skip
      refine O_alloc hS rfl rfl (fun b11 w hS => ?_)
      have hS := hS.f2.f2
      refine O_end ⟨⟨_, hS⟩, ?_⟩
      refine OA_one 3 rfl (by kernel_rfl) ?_
      refine O_alloc hS rfl rfl (fun b12 w hS => ?_)
      have hS := hS.f2.f2.f3.f2.f2
      refine O_end ⟨⟨_, hS⟩, ?_⟩
      refine OA_one 4 rfl (by kernel_rfl) ?_
      refine O_storeAgg hS.f2 rfl rfl rfl m.one (m.len hm) (Nat.le_of_ble_eq_true rfl) (fun w hS => ?_)
      have hS := (St.whole (vs := m.cs) hS (by rw [m.len hm]; rfl)).f2.f2
      refine O_end ⟨⟨_, hS⟩, ?_⟩
      refine OA_one 5 rfl (by kernel_rfl) ?_
      refine O_storeAgg hS.f3 rfl rfl rfl v.one (v.len hv) (Nat.le_of_ble_eq_true rfl) (fun w hS => ?_)
      have hS := (St.whole (vs := v.cs) hS (by rw [v.len hv]; rfl)).f3.f3.f3
      refine O_end ⟨⟨_, hS⟩, ?_⟩
      refine OA_end (by kernel_rfl) ?_
      refine W_seq ?_
      refine W_drawn (fun w => ∃ Gs, St w0 [] ([hcell b7 g] ++ Gs) w) ?_
      have hS := hS.drew.f6
      refine OA_take 0 rfl (by kernel_rfl) (by kernel_rfl) (by kernel_rfl) rfl rfl ⟨_, hS⟩ (fun w ⟨_, hS⟩ => E_move rfl) ?_
      refine OA_take 1 rfl (by kernel_rfl) (by kernel_rfl) (by kernel_rfl) rfl rfl ⟨_, hS⟩ (fun w ⟨_, h⟩ => E_loadAgg (vs := bvs g) rfl rfl (by rw [bvs_length, hg]) (rd_all h)) ?_
      refine OA_take 2 rfl (by kernel_rfl) (by kernel_rfl) (by kernel_rfl) rfl rfl ⟨_, hS⟩ (fun w ⟨_, h⟩ => E_loadAgg (vs := bvs g) rfl rfl (by rw [bvs_length, hg]) (rd_all h)) ?_
      refine OA_take 3 rfl (by kernel_rfl) (by kernel_rfl) (by kernel_rfl) rfl rfl ⟨_, hS⟩ (fun w ⟨_, hS⟩ => E_fieldAddr rfl) ?_
      refine OA_one 4 rfl (by kernel_rfl) ?_
      refine O_store hS.f3 rfl rfl rfl rfl (by show 2 < m.cs.length; rw [m.len hm]; decide) (fun w hS => ?_)
      have hS := hS.f1
      refine O_end ⟨⟨_, hS⟩, ?_⟩
      refine OA_take 5 rfl (by kernel_rfl) (by kernel_rfl) (by kernel_rfl) rfl rfl ⟨_, hS⟩ (fun w ⟨_, hS⟩ => E_fieldAddr rfl) ?_
      refine OA_one 6 rfl (by kernel_rfl) ?_
      refine O_storeAgg hS.f1 rfl rfl rfl (bvs_all g) (by simp [hg]) (by show 0 + 7 + 32 ≤ (m.cs.toArray.setIfInBounds _ _).size; rw [Array.size_setIfInBounds]; show 0 + 7 + 32 ≤ m.cs.length; rw [m.len hm]; decide) (fun w hS => ?_)
      have hS := St.asMsg (m := m) (to := to) (g := g) hS (by rw [hg, hm.tag])
      have hS := hS.f1
      refine O_end ⟨⟨_, hS⟩, ?_⟩
      refine OA_take 7 rfl (by kernel_rfl) (by kernel_rfl) (by kernel_rfl) rfl rfl ⟨_, hS⟩ (fun w ⟨_, hS⟩ => E_fieldAddr rfl) ?_
      refine OA_one 8 rfl (by kernel_rfl) ?_
      refine O_storeAgg hS.f4 rfl rfl rfl (bvs_all g) (by simp [hg]) (by show 0 + 36 + 32 ≤ v.cs.length; rw [v.len hv]; decide) (fun w hS => ?_)
      have hS := St.asVote (x := v) (g := g) hS hv hg
      have hS := hS.f1
      refine O_end ⟨⟨_, hS⟩, ?_⟩
      refine OA_end (by kernel_rfl) ?_
      refine W_seq ?_
      have q9 : ∀ w, (∃ Gs, St w0 [] ([mcell b4 m, vcell b5 v, mcell b11 (m.turned to g), vcell b12 (v.turned g), G9, G10] ++ Gs) w) → Rd w AG9 (bvs m.body) := fun w ⟨_, h⟩ => own_bytes hG9 (St.f4 h)
      have q10 : ∀ w, (∃ Gs, St w0 [] ([mcell b4 m, vcell b5 v, mcell b11 (m.turned to g), vcell b12 (v.turned g), G9, G10] ++ Gs) w) → Rd w AG10 (bvs v.sealb) := fun w ⟨_, h⟩ => own_bytes hG10 (St.f5 h)
      have qm : ∀ w, (∃ Gs, St w0 [] ([mcell b4 m, vcell b5 v, mcell b11 (m.turned to g), vcell b12 (v.turned g), G9, G10] ++ Gs) w) → Rd w (some ⟨b4, 0, none⟩) m.cs := fun w ⟨_, h⟩ => rd_all h
      have qv : ∀ w, (∃ Gs, St w0 [] ([mcell b4 m, vcell b5 v, mcell b11 (m.turned to g), vcell b12 (v.turned g), G9, G10] ++ Gs) w) → Rd w (some ⟨b5, 0, none⟩) v.cs := fun w ⟨_, h⟩ => rd_all (St.f1 h)
      have qm2 : ∀ w, (∃ Gs, St w0 [] ([mcell b4 m, vcell b5 v, mcell b11 (m.turned to g), vcell b12 (v.turned g), G9, G10] ++ Gs) w) → Rd w (some ⟨b11, 0, none⟩) (m.turned to g).cs := fun w ⟨_, h⟩ => rd_all (St.f2 h)
      have qv2 : ∀ w, (∃ Gs, St w0 [] ([mcell b4 m, vcell b5 v, mcell b11 (m.turned to g), vcell b12 (v.turned g), G9, G10] ++ Gs) w) → Rd w (some ⟨b12, 0, none⟩) (v.turned g).cs := fun w ⟨_, h⟩ => rd_all (St.f3 h)
      refine W_drawn (fun w => ∃ Gs, St w0 [] ([mcell b4 m, vcell b5 v, mcell b11 (m.turned to g), vcell b12 (v.turned g), G9, G10] ++ Gs) w) ?_
      have hS := hS.drew.drop.f4.f5.f2.f3.f5.f5
      refine OA_take 0 rfl (by kernel_rfl) (by kernel_rfl) (by kernel_rfl) rfl rfl ⟨_, hS⟩ (fun w ⟨_, hS⟩ => E_move rfl) ?_
      refine OA_take 1 rfl (by kernel_rfl) (by kernel_rfl) (by kernel_rfl) rfl rfl ⟨_, hS⟩ (fun w h => E_str rfl (q9 w h)) ?_
      refine OA_take 2 rfl (by kernel_rfl) (by kernel_rfl) (by kernel_rfl) rfl rfl ⟨_, hS⟩ (fun w h => E_loadAgg (vs := m.cs) rfl rfl (m.len hm) (qm w h)) ?_
      refine OA_one 3 rfl (by kernel_rfl) ?_
      have hcall := refBody_spec (hm.st hS) (by omega) (by omega)
      refine O_call rfl rfl rfl hcall (fun r w ⟨G30, hG30, hk⟩ => ?_)
      have hS := hS.after0 hk
      obtain ⟨AG30, cG30, rfl, _⟩ := hG30.form
      have hn := own_bytes hG30 hS
      have hS := hS.sink6
      refine O_end ⟨⟨_, hS⟩, ?_⟩
      refine OA_one 4 rfl (by kernel_rfl) ?_
      refine O_str rfl rfl rfl hn ?_
      refine O_end ⟨⟨_, hS⟩, ?_⟩
      refine OA_one 5 rfl (by kernel_rfl) ?_
      refine O_eql_str rfl rfl rfl rfl ?_
      refine O_know 32 (.bool true) rfl (congrArg Value.bool ((strOf_eq m.body m.body).trans (decide_eq_true rfl))) ?_
      refine O_end ⟨⟨_, hS⟩, ?_⟩
      refine OA_take 6 rfl (by kernel_rfl) (by kernel_rfl) (by kernel_rfl) rfl rfl ⟨_, hS⟩ (fun w ⟨_, hS⟩ => E_move rfl) ?_
      refine OA_take 7 rfl (by kernel_rfl) (by kernel_rfl) (by kernel_rfl) rfl rfl ⟨_, hS⟩ (fun w ⟨_, hS⟩ => E_move rfl) ?_
      refine OA_take 8 rfl (by kernel_rfl) (by kernel_rfl) (by kernel_rfl) rfl rfl ⟨_, hS⟩ (fun w h => E_str rfl (q10 w h)) ?_
      refine OA_take 9 rfl (by kernel_rfl) (by kernel_rfl) (by kernel_rfl) rfl rfl ⟨_, hS⟩ (fun w h => E_loadAgg (vs := v.cs) rfl rfl (v.len hv) (qv w h)) ?_
      refine OA_one 10 rfl (by kernel_rfl) ?_
      have hcall := refVoteBody_spec (w0 := w) hv
      refine O_call rfl rfl rfl hcall (fun r w ⟨G37, hG37, hk⟩ => ?_)
      have hS := hS.after0 hk
      obtain ⟨AG37, cG37, rfl, _⟩ := hG37.form
      have hn := own_bytes hG37 hS
      have hS := hS.sink6
      refine O_end ⟨⟨_, hS⟩, ?_⟩
      refine OA_one 11 rfl (by kernel_rfl) ?_
      refine O_str rfl rfl rfl hn ?_
      refine O_end ⟨⟨_, hS⟩, ?_⟩
      refine OA_one 12 rfl (by kernel_rfl) ?_
      refine O_eql_str rfl rfl rfl rfl ?_
      refine O_know 39 (.bool true) rfl (congrArg Value.bool ((strOf_eq v.sealb v.sealb).trans (decide_eq_true rfl))) ?_
      refine O_end ⟨⟨_, hS⟩, ?_⟩
      first | refine OA_take 13 rfl (by kernel_rfl) (by kernel_rfl) (by kernel_rfl) rfl rfl ⟨_, hS⟩ (fun w ⟨_, hS⟩ => E_pick_true rfl rfl) ?_ | refine OA_take 13 rfl (by kernel_rfl) (by kernel_rfl) (by kernel_rfl) rfl rfl ⟨_, hS⟩ (fun w ⟨_, hS⟩ => E_pick_false rfl rfl) ?_
      refine OA_take 14 rfl (by kernel_rfl) (by kernel_rfl) (by kernel_rfl) rfl rfl ⟨_, hS⟩ (fun w ⟨_, hS⟩ => E_move rfl) ?_
      refine OA_take 15 rfl (by kernel_rfl) (by kernel_rfl) (by kernel_rfl) rfl rfl ⟨_, hS⟩ (fun w h => E_loadAgg (vs := (m.turned to g).cs) rfl rfl ((m.turned to g).len (hm.turned to hg)) (qm2 w h)) ?_
      refine OA_take 18 rfl (by kernel_rfl) (by kernel_rfl) (by kernel_rfl) rfl rfl ⟨_, hS⟩ (fun w ⟨_, hS⟩ => E_move rfl) ?_
      refine OA_take 19 rfl (by kernel_rfl) (by kernel_rfl) (by kernel_rfl) rfl rfl ⟨_, hS⟩ (fun w h => E_str rfl (q9 w h)) ?_
      refine OA_one 16 rfl (by kernel_rfl) ?_
      have hcall := body_spec ((hm.st hS).turned to hg) (show m.x.length ≤ 10000 by omega) (show m.l.length ≤ 1000 by omega)
      refine O_call rfl rfl rfl hcall (fun r w ⟨G43, hG43, hk⟩ => ?_)
      have hS := hS.after0 hk
      obtain ⟨AG43, cG43, rfl, _⟩ := hG43.form
      have hn := own_bytes hG43 hS
      have hS := hS.sink6
      refine O_end ⟨⟨_, hS⟩, ?_⟩
      refine OA_one 17 rfl (by kernel_rfl) ?_
      refine O_str rfl rfl rfl hn ?_
      refine O_end ⟨⟨_, hS⟩, ?_⟩
      refine OA_one 20 rfl (by kernel_rfl) ?_
      refine O_eql_str rfl rfl rfl rfl ?_
      refine O_know 47 (.bool true) rfl (congrArg Value.bool ((strOf_eq m.body m.body).trans (decide_eq_true rfl))) ?_
      refine O_end ⟨⟨_, hS⟩, ?_⟩
      first | refine OA_take 21 rfl (by kernel_rfl) (by kernel_rfl) (by kernel_rfl) rfl rfl ⟨_, hS⟩ (fun w ⟨_, hS⟩ => E_pick_true rfl rfl) ?_ | refine OA_take 21 rfl (by kernel_rfl) (by kernel_rfl) (by kernel_rfl) rfl rfl ⟨_, hS⟩ (fun w ⟨_, hS⟩ => E_pick_false rfl rfl) ?_
      refine OA_take 22 rfl (by kernel_rfl) (by kernel_rfl) (by kernel_rfl) rfl rfl ⟨_, hS⟩ (fun w ⟨_, hS⟩ => E_move rfl) ?_
      refine OA_take 23 rfl (by kernel_rfl) (by kernel_rfl) (by kernel_rfl) rfl rfl ⟨_, hS⟩ (fun w h => E_loadAgg (vs := (v.turned g).cs) rfl rfl ((v.turned g).len (hv.turned hg)) (qv2 w h)) ?_
      refine OA_take 26 rfl (by kernel_rfl) (by kernel_rfl) (by kernel_rfl) rfl rfl ⟨_, hS⟩ (fun w ⟨_, hS⟩ => E_move rfl) ?_
      refine OA_take 27 rfl (by kernel_rfl) (by kernel_rfl) (by kernel_rfl) rfl rfl ⟨_, hS⟩ (fun w h => E_str rfl (q10 w h)) ?_
      refine OA_one 24 rfl (by kernel_rfl) ?_
      have hcall := voteBody_spec (w0 := w) (hv.turned hg)
      refine O_call rfl rfl rfl hcall (fun r w ⟨G51, hG51, hk⟩ => ?_)
      have hS := hS.after0 hk
      obtain ⟨AG51, cG51, rfl, _⟩ := hG51.form
      have hn := own_bytes hG51 hS
      have hS := hS.sink6
      refine O_end ⟨⟨_, hS⟩, ?_⟩
      refine OA_one 25 rfl (by kernel_rfl) ?_
      refine O_str rfl rfl rfl hn ?_
      refine O_end ⟨⟨_, hS⟩, ?_⟩
      refine OA_one 28 rfl (by kernel_rfl) ?_
      refine O_eql_str rfl rfl rfl rfl ?_
      refine O_know 55 (.bool true) rfl (congrArg Value.bool ((strOf_eq v.sealb v.sealb).trans (decide_eq_true rfl))) ?_
      refine O_end ⟨⟨_, hS⟩, ?_⟩
      first | refine OA_take 29 rfl (by kernel_rfl) (by kernel_rfl) (by kernel_rfl) rfl rfl ⟨_, hS⟩ (fun w ⟨_, hS⟩ => E_pick_true rfl rfl) ?_ | refine OA_take 29 rfl (by kernel_rfl) (by kernel_rfl) (by kernel_rfl) rfl rfl ⟨_, hS⟩ (fun w ⟨_, hS⟩ => E_pick_false rfl rfl) ?_
      refine OA_take 30 rfl (by kernel_rfl) (by kernel_rfl) (by kernel_rfl) rfl rfl ⟨_, hS⟩ (fun w ⟨_, hS⟩ => E_move rfl) ?_
      refine OA_one 31 rfl (by kernel_rfl) ?_
      have hcall := known_spec (w0 := w)
      refine O_call rfl rfl rfl hcall (fun r w ⟨hz, hk⟩ => ?_)
      subst hz
      have hS := hS.after0 hk
      refine O_end ⟨⟨_, hS⟩, ?_⟩
      first | refine OA_take 32 rfl (by kernel_rfl) (by kernel_rfl) (by kernel_rfl) rfl rfl ⟨_, hS⟩ (fun w ⟨_, hS⟩ => E_pick_true rfl rfl) ?_ | refine OA_take 32 rfl (by kernel_rfl) (by kernel_rfl) (by kernel_rfl) rfl rfl ⟨_, hS⟩ (fun w ⟨_, hS⟩ => E_pick_false rfl rfl) ?_
      refine OA_take 33 rfl (by kernel_rfl) (by kernel_rfl) (by kernel_rfl) rfl rfl ⟨_, hS⟩ (fun w ⟨_, hS⟩ => E_assign rfl) ?_
      refine OA_end (by kernel_rfl) ?_
      refine W_ret ⟨_, rfl, ?_⟩
      exact ⟨rfl, _, hS⟩
    · skip
      refine O_alloc hS rfl rfl (fun b12 w hS => ?_)
      have hS := hS.f2.f2
      refine O_end ⟨⟨_, hS⟩, ?_⟩
      refine OA_one 2 rfl (by kernel_rfl) ?_
      refine O_alloc hS rfl rfl (fun b11 w hS => ?_)
      have hS := hS.f2.f2
      refine O_end ⟨⟨_, hS⟩, ?_⟩
      refine OA_one 4 rfl (by kernel_rfl) ?_
      refine O_storeAgg hS.f2 rfl rfl rfl m.one (m.len hm) (Nat.le_of_ble_eq_true rfl) (fun w hS => ?_)
      have hS := (St.whole (vs := m.cs) hS (by rw [m.len hm]; rfl)).f2.f2
      refine O_end ⟨⟨_, hS⟩, ?_⟩
      refine OA_one 5 rfl (by kernel_rfl) ?_
      refine O_storeAgg hS.f3 rfl rfl rfl v.one (v.len hv) (Nat.le_of_ble_eq_true rfl) (fun w hS => ?_)
      have hS := (St.whole (vs := v.cs) hS (by rw [v.len hv]; rfl)).f3.f3.f3
      refine O_end ⟨⟨_, hS⟩, ?_⟩
      refine OA_end (by kernel_rfl) ?_
      refine W_seq ?_
      refine W_drawn (fun w => ∃ Gs, St w0 [] ([hcell b7 g] ++ Gs) w) ?_
      have hS := hS.drew.f6
      refine OA_take 0 rfl (by kernel_rfl) (by kernel_rfl) (by kernel_rfl) rfl rfl ⟨_, hS⟩ (fun w ⟨_, hS⟩ => E_move rfl) ?_
      refine OA_take 1 rfl (by kernel_rfl) (by kernel_rfl) (by kernel_rfl) rfl rfl ⟨_, hS⟩ (fun w ⟨_, h⟩ => E_loadAgg (vs := bvs g) rfl rfl (by rw [bvs_length, hg]) (rd_all h)) ?_
      refine OA_take 2 rfl (by kernel_rfl) (by kernel_rfl) (by kernel_rfl) rfl rfl ⟨_, hS⟩ (fun w ⟨_, h⟩ => E_loadAgg (vs := bvs g) rfl rfl (by rw [bvs_length, hg]) (rd_all h)) ?_
      refine OA_take 3 rfl (by kernel_rfl) (by kernel_rfl) (by kernel_rfl) rfl rfl ⟨_, hS⟩ (fun w ⟨_, hS⟩ => E_fieldAddr rfl) ?_
      refine OA_one 4 rfl (by kernel_rfl) ?_
      refine O_store hS.f3 rfl rfl rfl rfl (by show 2 < m.cs.length; rw [m.len hm]; decide) (fun w hS => ?_)
      have hS := hS.f1
      refine O_end ⟨⟨_, hS⟩, ?_⟩
      refine OA_take 5 rfl (by kernel_rfl) (by kernel_rfl) (by kernel_rfl) rfl rfl ⟨_, hS⟩ (fun w ⟨_, hS⟩ => E_fieldAddr rfl) ?_
      refine OA_one 6 rfl (by kernel_rfl) ?_
      refine O_storeAgg hS.f1 rfl rfl rfl (bvs_all g) (by simp [hg]) (by show 0 + 7 + 32 ≤ (m.cs.toArray.setIfInBounds _ _).size; rw [Array.size_setIfInBounds]; show 0 + 7 + 32 ≤ m.cs.length; rw [m.len hm]; decide) (fun w hS => ?_)
      have hS := St.asMsg (m := m) (to := to) (g := g) hS (by rw [hg, hm.tag])
      have hS := hS.f1
      refine O_end ⟨⟨_, hS⟩, ?_⟩
      refine OA_take 7 rfl (by kernel_rfl) (by kernel_rfl) (by kernel_rfl) rfl rfl ⟨_, hS⟩ (fun w ⟨_, hS⟩ => E_fieldAddr rfl) ?_
      refine OA_one 8 rfl (by kernel_rfl) ?_
      refine O_storeAgg hS.f4 rfl rfl rfl (bvs_all g) (by simp [hg]) (by show 0 + 36 + 32 ≤ v.cs.length; rw [v.len hv]; decide) (fun w hS => ?_)
      have hS := St.asVote (x := v) (g := g) hS hv hg
      have hS := hS.f1
      refine O_end ⟨⟨_, hS⟩, ?_⟩
      refine OA_end (by kernel_rfl) ?_
      refine W_seq ?_
      have q9 : ∀ w, (∃ Gs, St w0 [] ([mcell b4 m, vcell b5 v, mcell b11 (m.turned to g), vcell b12 (v.turned g), G9, G10] ++ Gs) w) → Rd w AG9 (bvs m.body) := fun w ⟨_, h⟩ => own_bytes hG9 (St.f4 h)
      have q10 : ∀ w, (∃ Gs, St w0 [] ([mcell b4 m, vcell b5 v, mcell b11 (m.turned to g), vcell b12 (v.turned g), G9, G10] ++ Gs) w) → Rd w AG10 (bvs v.sealb) := fun w ⟨_, h⟩ => own_bytes hG10 (St.f5 h)
      have qm : ∀ w, (∃ Gs, St w0 [] ([mcell b4 m, vcell b5 v, mcell b11 (m.turned to g), vcell b12 (v.turned g), G9, G10] ++ Gs) w) → Rd w (some ⟨b4, 0, none⟩) m.cs := fun w ⟨_, h⟩ => rd_all h
      have qv : ∀ w, (∃ Gs, St w0 [] ([mcell b4 m, vcell b5 v, mcell b11 (m.turned to g), vcell b12 (v.turned g), G9, G10] ++ Gs) w) → Rd w (some ⟨b5, 0, none⟩) v.cs := fun w ⟨_, h⟩ => rd_all (St.f1 h)
      have qm2 : ∀ w, (∃ Gs, St w0 [] ([mcell b4 m, vcell b5 v, mcell b11 (m.turned to g), vcell b12 (v.turned g), G9, G10] ++ Gs) w) → Rd w (some ⟨b11, 0, none⟩) (m.turned to g).cs := fun w ⟨_, h⟩ => rd_all (St.f2 h)
      have qv2 : ∀ w, (∃ Gs, St w0 [] ([mcell b4 m, vcell b5 v, mcell b11 (m.turned to g), vcell b12 (v.turned g), G9, G10] ++ Gs) w) → Rd w (some ⟨b12, 0, none⟩) (v.turned g).cs := fun w ⟨_, h⟩ => rd_all (St.f3 h)
      refine W_drawn (fun w => ∃ Gs, St w0 [] ([mcell b4 m, vcell b5 v, mcell b11 (m.turned to g), vcell b12 (v.turned g), G9, G10] ++ Gs) w) ?_
      have hS := hS.drew.drop.f4.f5.f2.f3.f5.f5
      refine OA_take 0 rfl (by kernel_rfl) (by kernel_rfl) (by kernel_rfl) rfl rfl ⟨_, hS⟩ (fun w ⟨_, hS⟩ => E_move rfl) ?_
      refine OA_take 1 rfl (by kernel_rfl) (by kernel_rfl) (by kernel_rfl) rfl rfl ⟨_, hS⟩ (fun w h => E_str rfl (q9 w h)) ?_
      refine OA_take 2 rfl (by kernel_rfl) (by kernel_rfl) (by kernel_rfl) rfl rfl ⟨_, hS⟩ (fun w h => E_loadAgg (vs := m.cs) rfl rfl (m.len hm) (qm w h)) ?_
      refine OA_one 3 rfl (by kernel_rfl) ?_
      have hcall := refBody_spec (hm.st hS) (by omega) (by omega)
      refine O_call rfl rfl rfl hcall (fun r w ⟨G30, hG30, hk⟩ => ?_)
      have hS := hS.after0 hk
      obtain ⟨AG30, cG30, rfl, _⟩ := hG30.form
      have hn := own_bytes hG30 hS
      have hS := hS.sink6
      refine O_end ⟨⟨_, hS⟩, ?_⟩
      refine OA_one 4 rfl (by kernel_rfl) ?_
      refine O_str rfl rfl rfl hn ?_
      refine O_end ⟨⟨_, hS⟩, ?_⟩
      refine OA_one 5 rfl (by kernel_rfl) ?_
      refine O_eql_str rfl rfl rfl rfl ?_
      refine O_know 32 (.bool true) rfl (congrArg Value.bool ((strOf_eq m.body m.body).trans (decide_eq_true rfl))) ?_
      refine O_end ⟨⟨_, hS⟩, ?_⟩
      refine OA_take 6 rfl (by kernel_rfl) (by kernel_rfl) (by kernel_rfl) rfl rfl ⟨_, hS⟩ (fun w ⟨_, hS⟩ => E_move rfl) ?_
      refine OA_take 7 rfl (by kernel_rfl) (by kernel_rfl) (by kernel_rfl) rfl rfl ⟨_, hS⟩ (fun w ⟨_, hS⟩ => E_move rfl) ?_
      refine OA_take 8 rfl (by kernel_rfl) (by kernel_rfl) (by kernel_rfl) rfl rfl ⟨_, hS⟩ (fun w h => E_str rfl (q10 w h)) ?_
      refine OA_take 9 rfl (by kernel_rfl) (by kernel_rfl) (by kernel_rfl) rfl rfl ⟨_, hS⟩ (fun w h => E_loadAgg (vs := v.cs) rfl rfl (v.len hv) (qv w h)) ?_
      refine OA_one 10 rfl (by kernel_rfl) ?_
      have hcall := refVoteBody_spec (w0 := w) hv
      refine O_call rfl rfl rfl hcall (fun r w ⟨G37, hG37, hk⟩ => ?_)
      have hS := hS.after0 hk
      obtain ⟨AG37, cG37, rfl, _⟩ := hG37.form
      have hn := own_bytes hG37 hS
      have hS := hS.sink6
      refine O_end ⟨⟨_, hS⟩, ?_⟩
      refine OA_one 11 rfl (by kernel_rfl) ?_
      refine O_str rfl rfl rfl hn ?_
      refine O_end ⟨⟨_, hS⟩, ?_⟩
      refine OA_one 12 rfl (by kernel_rfl) ?_
      refine O_eql_str rfl rfl rfl rfl ?_
      refine O_know 39 (.bool true) rfl (congrArg Value.bool ((strOf_eq v.sealb v.sealb).trans (decide_eq_true rfl))) ?_
      refine O_end ⟨⟨_, hS⟩, ?_⟩
      first | refine OA_take 13 rfl (by kernel_rfl) (by kernel_rfl) (by kernel_rfl) rfl rfl ⟨_, hS⟩ (fun w ⟨_, hS⟩ => E_pick_true rfl rfl) ?_ | refine OA_take 13 rfl (by kernel_rfl) (by kernel_rfl) (by kernel_rfl) rfl rfl ⟨_, hS⟩ (fun w ⟨_, hS⟩ => E_pick_false rfl rfl) ?_
      refine OA_take 14 rfl (by kernel_rfl) (by kernel_rfl) (by kernel_rfl) rfl rfl ⟨_, hS⟩ (fun w ⟨_, hS⟩ => E_move rfl) ?_
      refine OA_take 15 rfl (by kernel_rfl) (by kernel_rfl) (by kernel_rfl) rfl rfl ⟨_, hS⟩ (fun w h => E_loadAgg (vs := (m.turned to g).cs) rfl rfl ((m.turned to g).len (hm.turned to hg)) (qm2 w h)) ?_
      refine OA_take 18 rfl (by kernel_rfl) (by kernel_rfl) (by kernel_rfl) rfl rfl ⟨_, hS⟩ (fun w ⟨_, hS⟩ => E_move rfl) ?_
      refine OA_take 19 rfl (by kernel_rfl) (by kernel_rfl) (by kernel_rfl) rfl rfl ⟨_, hS⟩ (fun w h => E_str rfl (q9 w h)) ?_
      refine OA_one 16 rfl (by kernel_rfl) ?_
      have hcall := body_spec ((hm.st hS).turned to hg) (show m.x.length ≤ 10000 by omega) (show m.l.length ≤ 1000 by omega)
      refine O_call rfl rfl rfl hcall (fun r w ⟨G43, hG43, hk⟩ => ?_)
      have hS := hS.after0 hk
      obtain ⟨AG43, cG43, rfl, _⟩ := hG43.form
      have hn := own_bytes hG43 hS
      have hS := hS.sink6
      refine O_end ⟨⟨_, hS⟩, ?_⟩
      refine OA_one 17 rfl (by kernel_rfl) ?_
      refine O_str rfl rfl rfl hn ?_
      refine O_end ⟨⟨_, hS⟩, ?_⟩
      refine OA_one 20 rfl (by kernel_rfl) ?_
      refine O_eql_str rfl rfl rfl rfl ?_
      refine O_know 47 (.bool true) rfl (congrArg Value.bool ((strOf_eq m.body m.body).trans (decide_eq_true rfl))) ?_
      refine O_end ⟨⟨_, hS⟩, ?_⟩
      first | refine OA_take 21 rfl (by kernel_rfl) (by kernel_rfl) (by kernel_rfl) rfl rfl ⟨_, hS⟩ (fun w ⟨_, hS⟩ => E_pick_true rfl rfl) ?_ | refine OA_take 21 rfl (by kernel_rfl) (by kernel_rfl) (by kernel_rfl) rfl rfl ⟨_, hS⟩ (fun w ⟨_, hS⟩ => E_pick_false rfl rfl) ?_
      refine OA_take 22 rfl (by kernel_rfl) (by kernel_rfl) (by kernel_rfl) rfl rfl ⟨_, hS⟩ (fun w ⟨_, hS⟩ => E_move rfl) ?_
      refine OA_take 23 rfl (by kernel_rfl) (by kernel_rfl) (by kernel_rfl) rfl rfl ⟨_, hS⟩ (fun w h => E_loadAgg (vs := (v.turned g).cs) rfl rfl ((v.turned g).len (hv.turned hg)) (qv2 w h)) ?_
      refine OA_take 26 rfl (by kernel_rfl) (by kernel_rfl) (by kernel_rfl) rfl rfl ⟨_, hS⟩ (fun w ⟨_, hS⟩ => E_move rfl) ?_
      refine OA_take 27 rfl (by kernel_rfl) (by kernel_rfl) (by kernel_rfl) rfl rfl ⟨_, hS⟩ (fun w h => E_str rfl (q10 w h)) ?_
      refine OA_one 24 rfl (by kernel_rfl) ?_
      have hcall := voteBody_spec (w0 := w) (hv.turned hg)
      refine O_call rfl rfl rfl hcall (fun r w ⟨G51, hG51, hk⟩ => ?_)
      have hS := hS.after0 hk
      obtain ⟨AG51, cG51, rfl, _⟩ := hG51.form
      have hn := own_bytes hG51 hS
      have hS := hS.sink6
      refine O_end ⟨⟨_, hS⟩, ?_⟩
      refine OA_one 25 rfl (by kernel_rfl) ?_
      refine O_str rfl rfl rfl hn ?_
      refine O_end ⟨⟨_, hS⟩, ?_⟩
      refine OA_one 28 rfl (by kernel_rfl) ?_
      refine O_eql_str rfl rfl rfl rfl ?_
      refine O_know 55 (.bool true) rfl (congrArg Value.bool ((strOf_eq v.sealb v.sealb).trans (decide_eq_true rfl))) ?_
      refine O_end ⟨⟨_, hS⟩, ?_⟩
      first | refine OA_take 29 rfl (by kernel_rfl) (by kernel_rfl) (by kernel_rfl) rfl rfl ⟨_, hS⟩ (fun w ⟨_, hS⟩ => E_pick_true rfl rfl) ?_ | refine OA_take 29 rfl (by kernel_rfl) (by kernel_rfl) (by kernel_rfl) rfl rfl ⟨_, hS⟩ (fun w ⟨_, hS⟩ => E_pick_false rfl rfl) ?_
      refine OA_take 30 rfl (by kernel_rfl) (by kernel_rfl) (by kernel_rfl) rfl rfl ⟨_, hS⟩ (fun w ⟨_, hS⟩ => E_move rfl) ?_
      refine OA_one 31 rfl (by kernel_rfl) ?_
      have hcall := known_spec (w0 := w)
      refine O_call rfl rfl rfl hcall (fun r w ⟨hz, hk⟩ => ?_)
      subst hz
      have hS := hS.after0 hk
      refine O_end ⟨⟨_, hS⟩, ?_⟩
      first | refine OA_take 32 rfl (by kernel_rfl) (by kernel_rfl) (by kernel_rfl) rfl rfl ⟨_, hS⟩ (fun w ⟨_, hS⟩ => E_pick_true rfl rfl) ?_ | refine OA_take 32 rfl (by kernel_rfl) (by kernel_rfl) (by kernel_rfl) rfl rfl ⟨_, hS⟩ (fun w ⟨_, hS⟩ => E_pick_false rfl rfl) ?_
      refine OA_take 33 rfl (by kernel_rfl) (by kernel_rfl) (by kernel_rfl) rfl rfl ⟨_, hS⟩ (fun w ⟨_, hS⟩ => E_assign rfl) ?_
      refine OA_end (by kernel_rfl) ?_
      refine W_ret ⟨_, rfl, ?_⟩
      exact ⟨rfl, _, hS⟩

end Go.Proofs.Ytaglgnjamihdnaa.R
