/- A message as bytes; numbers out of their bounds are refused. -/
import Derived.Test.YtaglgnjamihdnaaWf
namespace Go.Proofs.Ytaglgnjamihdnaa.R
open Go Go.RowKit Go.Proofs
set_option linter.unusedVariables false
set_option linter.unusedSimpArgs false
set_option maxRecDepth 20000

def Mg.wire (m : Mg) : List UInt8 := encs [1, m.k, m.f, m.to, m.s, m.v] ++ (encRow m.x ++ (votesb m.l ++ m.tag))
theorem Mg.ctag (m : Mg) : ∀ i u, (bvs m.tag)[i]? = some u → m.cs.toArray[0 + 7 + i]? = some u := fun i u hu => by
  rw [show 0 + 7 + i = i + 1 + 1 + 1 + 1 + 1 + 1 + 1 by omega]
  simp only [Mg.cs, List.getElem?_toArray, List.getElem?_cons_succ]
  exact hu

set_option maxHeartbeats 400000 in
theorem encodeMsg_spec {w0 : World} {m : Mg} (hm : m.ok w0) : Calls Try.prog 19 #[.agg m.cs.toArray] w0 (Ret fun r w => ∃ v G, r = .tuple #[v, .int .i64 (if msgok m then 0 else 1)] ∧ BRow v (if msgok m then m.wire else []) G ∧ St w0 [] [G] w) := by
  have hS : Own [] w0 := St.start w0
  refine calls_enter (l := [.agg m.cs.toArray]) Try.func19 rfl Try.ntmps19 Try.results19 (Nat.le_of_ble_eq_true rfl) ?_
  refine W_seq ?_
  refine W_region ?_
  refine O_box hS rfl rfl rfl (fun b1 w hS => ?_)
  refine O_assign rfl rfl rfl ?_
  refine O_assign rfl rfl rfl ?_
  refine O_end ?_
  refine W_seq ?_
  refine W_seq ?_
  refine W_region ?_
  refine O_loadAgg (vs := m.cs) rfl rfl rfl rfl (m.len hm) (rd_all hS) ?_
  have hcall := isMsg_spec (hm.st hS)
  refine O_call rfl rfl rfl hcall (fun r w ⟨hz, hk⟩ => ?_)
  subst hz
  have hS := hS.after0 hk
  refine O_not rfl rfl rfl ?_
  refine O_end ?_
  refine W_if rfl (fun c7 => ?_) (fun c7 => ?_)
  · skip
    refine W_seq ?_
    refine W_region ?_
    refine O_assign rfl rfl rfl ?_
    refine O_assign rfl rfl rfl ?_
    refine O_end ?_
    refine W_ret ⟨_, rfl, ?_⟩
    have hok : msgok m = false := by simpa using c7
    rw [hok]
    exact ⟨_, [], rfl, Row.nil _ _, hS.bare.empty⟩
  · skip
    refine W_skip ?_
    refine W_seq ?_
    refine W_region ?_
    refine O_alloc hS rfl rfl (fun b4 w hS => ?_)
    have hS : St w0 [] (wcell b4 (.slice none 0 0) :: _) w := hS
    have hok : msgok m = true := by simpa using c7
    have hxl : m.x.length ≤ 200 ∧ m.l.length ≤ 10 := by
      have h := hok
      unfold msgok at h
      simp only [Bool.and_eq_true, decide_eq_true_eq] at h
      omega
    refine O_end ?_
    refine W_seq ?_
    refine W_region ?_
    refine O_fieldAddr rfl rfl rfl ?_
    refine O_load rfl rfl rfl rfl (hS.f1.cell m.c0) ?_
    refine O_fieldAddr rfl rfl rfl ?_
    refine O_load rfl rfl rfl rfl (hS.f1.cell m.c1) ?_
    refine O_fieldAddr rfl rfl rfl ?_
    refine O_load rfl rfl rfl rfl (hS.f1.cell m.c2) ?_
    refine O_fieldAddr rfl rfl rfl ?_
    refine O_load rfl rfl rfl rfl (hS.f1.cell m.c3) ?_
    refine O_fieldAddr rfl rfl rfl ?_
    refine O_load rfl rfl rfl rfl (hS.f1.cell m.c4) ?_
    refine O_lit hS rfl rfl rfl rfl rfl rfl (Nat.le_of_ble_eq_true rfl) (fun b18 w hS => ?_)
    have hn := hS.rdAll
    have ha := hS.apart_first (off := 0) (sp := none) (vs := [1, m.k, m.f, m.to, m.s, m.v].map iv)
    have hS := hS.f1.empty.f1
    have hcall := nums_spec (bs := []) (ns := [1, m.k, m.f, m.to, m.s, m.v]) (c := 6) hS.own2 (Row.nil _ _) hn (ha.sub' (by simp) (fun b hb => ids_sub (Gs' := [wcell b4 (.slice none 0 0)]) (by simp) b (by simpa [idsOf] using hb))) (by simp)
    refine O_call rfl rfl rfl hcall (fun r w ⟨hz, v1, R1, hR, hk⟩ => ?_)
    subst hz
    have hS := hS.after2 hk
    rw [List.nil_append] at hR
    have hl3 := encs_len [1, m.k, m.f, m.to, m.s, m.v]
    simp only [List.length_cons, List.length_nil] at hl3
    refine O_end ?_
    refine W_seq ?_
    refine W_region ?_
    refine O_fieldAddr rfl rfl rfl ?_
    refine O_load rfl rfl rfl rfl (hS.f3.cell m.c5) ?_
    refine O_lit hS rfl rfl rfl rfl rfl rfl (Nat.le_of_ble_eq_true rfl) (fun b22 w hS => ?_)
    have hn1 := hS.rdAll
    have ha1 := hS.apart_first (off := 0) (sp := none) (vs := [.slice m.A m.x.length m.c])
    have hS := hS.f1.f2.f1
    have hax := hS.apart hm.x (Apart.of_nil _ _)
    have hb1 : RdB w (some ⟨b22, 0, none⟩) [m.x] (idsOf [wcell b4 v1, R1]) := RdB.one hn1 rfl (ha1.sub (ids_sub (by simp))) (hS.rd hm.x (Apart.of_nil _ _)) (hax.sub (ids_sub (by simp)))
    have hcall := bytes_spec (c := 1) hS.own2 hR hb1 (by simp only [wt, List.map_cons, List.map_nil, List.sum_cons, List.sum_nil]; omega)
    refine O_call rfl rfl rfl hcall (fun r w ⟨hz, v1, R1, hR, hk⟩ => ?_)
    subst hz
    have hS := hS.after2 hk
    rw [show encRows [m.x] = encRow m.x from by simp [encRows]] at hR
    have her := encRow_len m.x (by omega)
    refine O_end ?_
    refine W_seq ?_
    refine W_region ?_
    refine O_fieldAddr rfl rfl rfl ?_
    refine O_load rfl rfl rfl rfl (hS.f4.cell m.c6) ?_
    have hal := hS.apart hm.l (Apart.of_nil _ _)
    have hcall := row_spec (d := m.d) hS.own2 hR (hS.rd hm.l (Apart.of_nil _ _)) (hal.sub (ids_sub (by simp))) hm.votes (by omega) (by simp only [List.length_append]; omega)
    refine O_call rfl rfl rfl hcall (fun r w ⟨hz, v1, R1, hR, hk⟩ => ?_)
    subst hz
    have hS := hS.after2 hk
    have hvl := votesb_len m.l hm.votes
    refine O_end ?_
    refine W_seq ?_
    refine W_region ?_
    refine O_fieldAddr rfl rfl rfl ?_
    refine O_slice_array rfl rfl rfl ?_
    have hrs := hS.f4.rdCells (off := 0 + 7) (vs := bvs m.tag) m.ctag
    have hcall := raw_spec (c := 32) hS.own2 hR hrs (by simp only [List.length_append, hm.tag]; omega)
    rw [hm.tag] at hcall
    refine O_call rfl rfl rfl hcall (fun r w ⟨hz, v1, R1, hR, hk⟩ => ?_)
    subst hz
    have hS := hS.after2 hk
    refine O_end ?_
    refine W_seq ?_
    refine W_region ?_
    have hcall := out_spec hS.own2 hR (by simp only [List.length_append, hm.tag]; omega)
    refine O_call rfl rfl rfl hcall (fun r w ⟨G, hG, hk⟩ => ?_)
    have hS := (hS.after2 hk).keep1
    refine O_assign rfl rfl rfl ?_
    refine O_assign rfl rfl rfl ?_
    refine O_end ?_
    refine W_ret ⟨_, rfl, ?_⟩
    rw [hok]
    refine ⟨_, G, rfl, ?_, hS⟩
    have e : m.wire = encs [1, m.k, m.f, m.to, m.s, m.v] ++ encRow m.x ++ votesb m.l ++ m.tag := by simp [Mg.wire, List.append_assoc]
    show BRow _ m.wire G
    rw [e]
    exact hG

abbrev zero32 : List UInt8 := [0, 0, 0, 0, 0, 0, 0, 0, 0, 0, 0, 0, 0, 0, 0, 0, 0, 0, 0, 0, 0, 0, 0, 0, 0, 0, 0, 0, 0, 0, 0, 0]
def okb (k f s v : Int) : Bool := decide (1 ≤ k ∧ k ≤ 6 ∧ 0 ≤ f ∧ f ≤ 9 ∧ 0 ≤ s ∧ s ≤ 63 ∧ 0 ≤ v ∧ v ≤ 8)
abbrev bm1 (k f s v : Int) : Mg := ⟨k, f, 0, s, v, none, [], 0, none, [], 0, zero32⟩
abbrev bvt (k f s v : Int) : Vt := ⟨k, s, v, zero32, f, zero32⟩
abbrev bm2 (k f s v : Int) (b : Nat) : Mg := ⟨1, 0, 0, 0, 0, none, [], 0, some ⟨b, 0, none⟩, [bvt k f s v], 1, zero32⟩
theorem ok_bm1 (k f s v : Int) (w : World) : (bm1 k f s v).ok w := ⟨Rd.nil _ _, Rd.nil _ _, by simp, rfl⟩
theorem ok_bm2 (k f s v : Int) (b : Nat) (w : World) (h : Rd w (some ⟨b, 0, none⟩) (bvt k f s v).cs) : (bm2 k f s v b).ok w := ⟨Rd.nil _ _, by simpa using h, by intro x hx; obtain rfl := List.mem_singleton.1 hx; exact ⟨rfl, rfl⟩, rfl⟩
theorem msgok_bm1 (k f s v : Int) : msgok (bm1 k f s v) = okb k f s v := by
  unfold msgok okb isin
  simp only [List.length_nil, List.all_nil, Bool.and_true, ← Bool.decide_and]
  rw [decide_eq_decide]
  omega
theorem msgok_bm2 (k f s v : Int) (b : Nat) : msgok (bm2 k f s v b) = (okb k f s v && decide (k ≤ 3)) := by
  unfold msgok okb voteok isin
  simp only [List.length_nil, List.length_singleton, List.all_cons, List.all_nil, Bool.and_true, ← Bool.decide_and]
  rw [decide_eq_decide]
  omega
theorem code_eq (b : Bool) : (((if b then 0 else 1 : Int)) == 0) = b := by cases b <;> rfl

set_option maxHeartbeats 2000000 in
theorem wireBounds_spec {w0 : World} {k f s v : Int} : Calls Try.prog 6 #[.int .i64 k, .int .i64 f, .int .i64 s, .int .i64 v] w0 (Ret fun r w => r = .bool true ∧ ∃ Gs, St w0 [] Gs w) := by
  have hS : Own [] w0 := St.start w0
  refine calls_enter (l := [.int .i64 k, .int .i64 f, .int .i64 s, .int .i64 v]) Try.func6 rfl Try.ntmps6 Try.results6 (Nat.le_of_ble_eq_true rfl) ?_
  refine W_seq ?_
  refine W_region ?_
  refine O_assign rfl rfl rfl ?_
  refine O_end ?_
  refine W_seq ?_
  refine W_region ?_
  refine O_move rfl rfl rfl ?_
  refine O_move rfl rfl rfl ?_
  refine O_move rfl rfl rfl ?_
  refine O_move rfl rfl rfl ?_
  refine O_build (c := (bm1 k f s v).cs.toArray) rfl rfl rfl (fun _ => by kernel_rfl) ?_
  refine O_alloc hS rfl rfl (fun b9 w hS => ?_)
  refine O_storeAgg hS rfl rfl rfl (bm1 k f s v).one rfl (Nat.le_of_ble_eq_true rfl) (fun w hS => ?_)
  have hS := St.whole (vs := (bm1 k f s v).cs) hS rfl
  refine O_end ?_
  refine W_seq ?_
  refine W_region ?_
  refine O_move rfl rfl rfl ?_
  refine O_bin rfl rfl rfl rfl rfl ?_
  refine O_move rfl rfl rfl ?_
  refine O_part 22 rfl (fun c22 => ?_) (fun c22 => ?_)
  · skip
    refine O_move rfl rfl rfl ?_
    refine O_bin rfl rfl rfl rfl rfl ?_
    first | refine O_pick_true rfl rfl rfl rfl ?_ | refine O_pick_false rfl rfl rfl rfl ?_
    refine O_move rfl rfl rfl ?_
    refine O_part 26 rfl (fun c26 => ?_) (fun c26 => ?_)
    · skip
      refine O_move rfl rfl rfl ?_
      refine O_bin rfl rfl rfl rfl rfl ?_
      first | refine O_pick_true rfl rfl rfl rfl ?_ | refine O_pick_false rfl rfl rfl rfl ?_
      refine O_move rfl rfl rfl ?_
      refine O_part 30 rfl (fun c30 => ?_) (fun c30 => ?_)
      · skip
        refine O_move rfl rfl rfl ?_
        refine O_bin rfl rfl rfl rfl rfl ?_
        first | refine O_pick_true rfl rfl rfl rfl ?_ | refine O_pick_false rfl rfl rfl rfl ?_
        refine O_move rfl rfl rfl ?_
        refine O_part 34 rfl (fun c34 => ?_) (fun c34 => ?_)
        · skip
          refine O_move rfl rfl rfl ?_
          refine O_bin rfl rfl rfl rfl rfl ?_
          first | refine O_pick_true rfl rfl rfl rfl ?_ | refine O_pick_false rfl rfl rfl rfl ?_
          refine O_move rfl rfl rfl ?_
          refine O_part 38 rfl (fun c38 => ?_) (fun c38 => ?_)
          · skip
            refine O_move rfl rfl rfl ?_
            refine O_bin rfl rfl rfl rfl rfl ?_
            first | refine O_pick_true rfl rfl rfl rfl ?_ | refine O_pick_false rfl rfl rfl rfl ?_
            refine O_move rfl rfl rfl ?_
            refine O_part 42 rfl (fun c42 => ?_) (fun c42 => ?_)
            · skip
              refine O_move rfl rfl rfl ?_
              refine O_bin rfl rfl rfl rfl rfl ?_
              first | refine O_pick_true rfl rfl rfl rfl ?_ | refine O_pick_false rfl rfl rfl rfl ?_
              refine O_move rfl rfl rfl ?_
              refine O_part 46 rfl (fun c46 => ?_) (fun c46 => ?_)
              · skip
                refine O_move rfl rfl rfl ?_
                refine O_bin rfl rfl rfl rfl rfl ?_
                first | refine O_pick_true rfl rfl rfl rfl ?_ | refine O_pick_false rfl rfl rfl rfl ?_
                refine O_know 49 (.bool (okb k f s v)) rfl (congrArg Value.bool ((by (try simp only [decide_eq_true_eq, decide_eq_false_iff_not] at *); unfold okb; first | (rw [decide_eq_decide]; omega) | (symm; rw [decide_eq_false_iff_not]; omega)))) ?_
                refine O_assign rfl rfl rfl ?_
                refine O_end ?_
                refine W_seq ?_
                refine W_region ?_
                refine O_loadAgg (vs := (bm1 k f s v).cs) rfl rfl rfl rfl rfl (rd_all hS) ?_
                have hcall := encodeMsg_spec (ok_bm1 k f s v w)
                rw [msgok_bm1] at hcall
                refine O_call rfl rfl rfl hcall (fun r w ⟨u1, G1, hz, hG1, hk⟩ => ?_)
                subst hz
                have hS := hS.after0 hk
                refine O_move rfl rfl rfl ?_
                refine O_extract rfl rfl rfl rfl ?_
                refine O_extract rfl rfl rfl rfl ?_
                refine O_assign rfl rfl rfl ?_
                refine O_assign rfl rfl rfl ?_
                refine O_end ?_
                refine W_seq ?_
                refine W_region ?_
                refine O_move rfl rfl rfl ?_
                refine O_move rfl rfl rfl ?_
                refine O_move rfl rfl rfl ?_
                refine O_move rfl rfl rfl ?_
                refine O_build (c := (bvt k f s v).cs.toArray) rfl rfl rfl (fun _ => by kernel_rfl) ?_
                refine O_buildSlice (e := 29) (c := (bvt k f s v).cs.toArray) hS rfl rfl rfl (fun w => by kernel_rfl) (fun b61 w hS => ?_)
                have hn61 := rd_all hS
                refine O_build (c := (bm2 k f s v b61).cs.toArray) rfl rfl rfl (fun _ => by kernel_rfl) ?_
                have hcall := encodeMsg_spec (ok_bm2 k f s v b61 w hn61)
                rw [msgok_bm2] at hcall
                refine O_call rfl rfl rfl hcall (fun r w ⟨u2, G2, hz, hG2, hk⟩ => ?_)
                subst hz
                have hS := hS.after0 hk
                refine O_move rfl rfl rfl ?_
                refine O_extract rfl rfl rfl rfl ?_
                refine O_extract rfl rfl rfl rfl ?_
                refine O_assign rfl rfl rfl ?_
                refine O_assign rfl rfl rfl ?_
                refine O_end ?_
                refine W_seq ?_
                refine W_region ?_
                refine O_move rfl rfl rfl ?_
                refine O_bin rfl rfl rfl rfl rfl ?_
                refine O_move rfl rfl rfl ?_
                refine O_eql_bool rfl rfl rfl rfl ?_
                refine O_know 69 (.bool true) rfl (congrArg Value.bool (by rw [code_eq]; simp)) ?_
                refine O_move rfl rfl rfl ?_
                refine O_know 70 (.bool true) rfl (congrArg Value.bool (rfl)) ?_
                refine O_move rfl rfl rfl ?_
                refine O_bin rfl rfl rfl rfl rfl ?_
                refine O_move rfl rfl rfl ?_
                refine O_move rfl rfl rfl ?_
                refine O_part 74 rfl (fun c74 => ?_) (fun c74 => ?_)
                · skip
                  refine O_move rfl rfl rfl ?_
                  refine O_bin rfl rfl rfl rfl rfl ?_
                  first | refine O_pick_true rfl rfl rfl rfl ?_ | refine O_pick_false rfl rfl rfl rfl ?_
                  refine O_eql_bool rfl rfl rfl rfl ?_
                  refine O_know 78 (.bool true) rfl (congrArg Value.bool (by rw [code_eq]; simp_all)) ?_
                  first | refine O_pick_true rfl rfl rfl rfl ?_ | refine O_pick_false rfl rfl rfl rfl ?_
                  refine O_move rfl rfl rfl ?_
                  refine O_know 80 (.bool true) rfl (congrArg Value.bool (rfl)) ?_
                  have hcall := known_spec (w0 := w)
                  refine O_call rfl rfl rfl hcall (fun r w ⟨hz, hk⟩ => ?_)
                  subst hz
                  have hS := hS.after0 hk
                  first | refine O_pick_true rfl rfl rfl rfl ?_ | refine O_pick_false rfl rfl rfl rfl ?_
                  refine O_assign rfl rfl rfl ?_
                  refine O_end ?_
                  refine W_ret ⟨_, rfl, ?_⟩
                  exact ⟨rfl, _, hS⟩
                · skip
                  refine O_skip rfl rfl ?_
                  refine O_skip rfl rfl ?_
                  first | refine O_pick_true rfl rfl rfl rfl ?_ | refine O_pick_false rfl rfl rfl rfl ?_
                  refine O_eql_bool rfl rfl rfl rfl ?_
                  refine O_know 78 (.bool true) rfl (congrArg Value.bool (by rw [code_eq]; simp_all)) ?_
                  first | refine O_pick_true rfl rfl rfl rfl ?_ | refine O_pick_false rfl rfl rfl rfl ?_
                  refine O_move rfl rfl rfl ?_
                  refine O_know 80 (.bool true) rfl (congrArg Value.bool (rfl)) ?_
                  have hcall := known_spec (w0 := w)
                  refine O_call rfl rfl rfl hcall (fun r w ⟨hz, hk⟩ => ?_)
                  subst hz
                  have hS := hS.after0 hk
                  first | refine O_pick_true rfl rfl rfl rfl ?_ | refine O_pick_false rfl rfl rfl rfl ?_
                  refine O_assign rfl rfl rfl ?_
                  refine O_end ?_
                  refine W_ret ⟨_, rfl, ?_⟩
                  exact ⟨rfl, _, hS⟩
              · skip
                refine O_skip rfl rfl ?_
                refine O_skip rfl rfl ?_
                first | refine O_pick_true rfl rfl rfl rfl ?_ | refine O_pick_false rfl rfl rfl rfl ?_
                refine O_know 49 (.bool (okb k f s v)) rfl (congrArg Value.bool ((by (try simp only [decide_eq_true_eq, decide_eq_false_iff_not] at *); unfold okb; first | (rw [decide_eq_decide]; omega) | (symm; rw [decide_eq_false_iff_not]; omega)))) ?_
                refine O_assign rfl rfl rfl ?_
                refine O_end ?_
                refine W_seq ?_
                refine W_region ?_
                refine O_loadAgg (vs := (bm1 k f s v).cs) rfl rfl rfl rfl rfl (rd_all hS) ?_
                have hcall := encodeMsg_spec (ok_bm1 k f s v w)
                rw [msgok_bm1] at hcall
                refine O_call rfl rfl rfl hcall (fun r w ⟨u1, G1, hz, hG1, hk⟩ => ?_)
                subst hz
                have hS := hS.after0 hk
                refine O_move rfl rfl rfl ?_
                refine O_extract rfl rfl rfl rfl ?_
                refine O_extract rfl rfl rfl rfl ?_
                refine O_assign rfl rfl rfl ?_
                refine O_assign rfl rfl rfl ?_
                refine O_end ?_
                refine W_seq ?_
                refine W_region ?_
                refine O_move rfl rfl rfl ?_
                refine O_move rfl rfl rfl ?_
                refine O_move rfl rfl rfl ?_
                refine O_move rfl rfl rfl ?_
                refine O_build (c := (bvt k f s v).cs.toArray) rfl rfl rfl (fun _ => by kernel_rfl) ?_
                refine O_buildSlice (e := 29) (c := (bvt k f s v).cs.toArray) hS rfl rfl rfl (fun w => by kernel_rfl) (fun b61 w hS => ?_)
                have hn61 := rd_all hS
                refine O_build (c := (bm2 k f s v b61).cs.toArray) rfl rfl rfl (fun _ => by kernel_rfl) ?_
                have hcall := encodeMsg_spec (ok_bm2 k f s v b61 w hn61)
                rw [msgok_bm2] at hcall
                refine O_call rfl rfl rfl hcall (fun r w ⟨u2, G2, hz, hG2, hk⟩ => ?_)
                subst hz
                have hS := hS.after0 hk
                refine O_move rfl rfl rfl ?_
                refine O_extract rfl rfl rfl rfl ?_
                refine O_extract rfl rfl rfl rfl ?_
                refine O_assign rfl rfl rfl ?_
                refine O_assign rfl rfl rfl ?_
                refine O_end ?_
                refine W_seq ?_
                refine W_region ?_
                refine O_move rfl rfl rfl ?_
                refine O_bin rfl rfl rfl rfl rfl ?_
                refine O_move rfl rfl rfl ?_
                refine O_eql_bool rfl rfl rfl rfl ?_
                refine O_know 69 (.bool true) rfl (congrArg Value.bool (by rw [code_eq]; simp)) ?_
                refine O_move rfl rfl rfl ?_
                refine O_know 70 (.bool true) rfl (congrArg Value.bool (rfl)) ?_
                refine O_move rfl rfl rfl ?_
                refine O_bin rfl rfl rfl rfl rfl ?_
                refine O_move rfl rfl rfl ?_
                refine O_move rfl rfl rfl ?_
                refine O_part 74 rfl (fun c74 => ?_) (fun c74 => ?_)
                · skip
                  refine O_move rfl rfl rfl ?_
                  refine O_bin rfl rfl rfl rfl rfl ?_
                  first | refine O_pick_true rfl rfl rfl rfl ?_ | refine O_pick_false rfl rfl rfl rfl ?_
                  refine O_eql_bool rfl rfl rfl rfl ?_
                  refine O_know 78 (.bool true) rfl (congrArg Value.bool (by rw [code_eq]; simp_all)) ?_
                  first | refine O_pick_true rfl rfl rfl rfl ?_ | refine O_pick_false rfl rfl rfl rfl ?_
                  refine O_move rfl rfl rfl ?_
                  refine O_know 80 (.bool true) rfl (congrArg Value.bool (rfl)) ?_
                  have hcall := known_spec (w0 := w)
                  refine O_call rfl rfl rfl hcall (fun r w ⟨hz, hk⟩ => ?_)
                  subst hz
                  have hS := hS.after0 hk
                  first | refine O_pick_true rfl rfl rfl rfl ?_ | refine O_pick_false rfl rfl rfl rfl ?_
                  refine O_assign rfl rfl rfl ?_
                  refine O_end ?_
                  refine W_ret ⟨_, rfl, ?_⟩
                  exact ⟨rfl, _, hS⟩
                · skip
                  refine O_skip rfl rfl ?_
                  refine O_skip rfl rfl ?_
                  first | refine O_pick_true rfl rfl rfl rfl ?_ | refine O_pick_false rfl rfl rfl rfl ?_
                  refine O_eql_bool rfl rfl rfl rfl ?_
                  refine O_know 78 (.bool true) rfl (congrArg Value.bool (by rw [code_eq]; simp_all)) ?_
                  first | refine O_pick_true rfl rfl rfl rfl ?_ | refine O_pick_false rfl rfl rfl rfl ?_
                  refine O_move rfl rfl rfl ?_
                  refine O_know 80 (.bool true) rfl (congrArg Value.bool (rfl)) ?_
                  have hcall := known_spec (w0 := w)
                  refine O_call rfl rfl rfl hcall (fun r w ⟨hz, hk⟩ => ?_)
                  subst hz
                  have hS := hS.after0 hk
                  first | refine O_pick_true rfl rfl rfl rfl ?_ | refine O_pick_false rfl rfl rfl rfl ?_
                  refine O_assign rfl rfl rfl ?_
                  refine O_end ?_
                  refine W_ret ⟨_, rfl, ?_⟩
                  exact ⟨rfl, _, hS⟩
            · skip
              refine O_skip rfl rfl ?_
              refine O_skip rfl rfl ?_
              first | refine O_pick_true rfl rfl rfl rfl ?_ | refine O_pick_false rfl rfl rfl rfl ?_
              refine O_move rfl rfl rfl ?_
              refine O_know 46 (.bool false) rfl (congrArg Value.bool (rfl)) ?_
              refine O_skip rfl rfl ?_
              refine O_skip rfl rfl ?_
              first | refine O_pick_true rfl rfl rfl rfl ?_ | refine O_pick_false rfl rfl rfl rfl ?_
              refine O_know 49 (.bool (okb k f s v)) rfl (congrArg Value.bool ((by (try simp only [decide_eq_true_eq, decide_eq_false_iff_not] at *); unfold okb; first | (rw [decide_eq_decide]; omega) | (symm; rw [decide_eq_false_iff_not]; omega)))) ?_
              refine O_assign rfl rfl rfl ?_
              refine O_end ?_
              refine W_seq ?_
              refine W_region ?_
              refine O_loadAgg (vs := (bm1 k f s v).cs) rfl rfl rfl rfl rfl (rd_all hS) ?_
              have hcall := encodeMsg_spec (ok_bm1 k f s v w)
              rw [msgok_bm1] at hcall
              refine O_call rfl rfl rfl hcall (fun r w ⟨u1, G1, hz, hG1, hk⟩ => ?_)
              subst hz
              have hS := hS.after0 hk
              refine O_move rfl rfl rfl ?_
              refine O_extract rfl rfl rfl rfl ?_
              refine O_extract rfl rfl rfl rfl ?_
              refine O_assign rfl rfl rfl ?_
              refine O_assign rfl rfl rfl ?_
              refine O_end ?_
              refine W_seq ?_
              refine W_region ?_
              refine O_move rfl rfl rfl ?_
              refine O_move rfl rfl rfl ?_
              refine O_move rfl rfl rfl ?_
              refine O_move rfl rfl rfl ?_
              refine O_build (c := (bvt k f s v).cs.toArray) rfl rfl rfl (fun _ => by kernel_rfl) ?_
              refine O_buildSlice (e := 29) (c := (bvt k f s v).cs.toArray) hS rfl rfl rfl (fun w => by kernel_rfl) (fun b61 w hS => ?_)
              have hn61 := rd_all hS
              refine O_build (c := (bm2 k f s v b61).cs.toArray) rfl rfl rfl (fun _ => by kernel_rfl) ?_
              have hcall := encodeMsg_spec (ok_bm2 k f s v b61 w hn61)
              rw [msgok_bm2] at hcall
              refine O_call rfl rfl rfl hcall (fun r w ⟨u2, G2, hz, hG2, hk⟩ => ?_)
              subst hz
              have hS := hS.after0 hk
              refine O_move rfl rfl rfl ?_
              refine O_extract rfl rfl rfl rfl ?_
              refine O_extract rfl rfl rfl rfl ?_
              refine O_assign rfl rfl rfl ?_
              refine O_assign rfl rfl rfl ?_
              refine O_end ?_
              refine W_seq ?_
              refine W_region ?_
              refine O_move rfl rfl rfl ?_
              refine O_bin rfl rfl rfl rfl rfl ?_
              refine O_move rfl rfl rfl ?_
              refine O_eql_bool rfl rfl rfl rfl ?_
              refine O_know 69 (.bool true) rfl (congrArg Value.bool (by rw [code_eq]; simp)) ?_
              refine O_move rfl rfl rfl ?_
              refine O_know 70 (.bool true) rfl (congrArg Value.bool (rfl)) ?_
              refine O_move rfl rfl rfl ?_
              refine O_bin rfl rfl rfl rfl rfl ?_
              refine O_move rfl rfl rfl ?_
              refine O_move rfl rfl rfl ?_
              refine O_part 74 rfl (fun c74 => ?_) (fun c74 => ?_)
              · skip
                refine O_move rfl rfl rfl ?_
                refine O_bin rfl rfl rfl rfl rfl ?_
                first | refine O_pick_true rfl rfl rfl rfl ?_ | refine O_pick_false rfl rfl rfl rfl ?_
                refine O_eql_bool rfl rfl rfl rfl ?_
                refine O_know 78 (.bool true) rfl (congrArg Value.bool (by rw [code_eq]; simp_all)) ?_
                first | refine O_pick_true rfl rfl rfl rfl ?_ | refine O_pick_false rfl rfl rfl rfl ?_
                refine O_move rfl rfl rfl ?_
                refine O_know 80 (.bool true) rfl (congrArg Value.bool (rfl)) ?_
                have hcall := known_spec (w0 := w)
                refine O_call rfl rfl rfl hcall (fun r w ⟨hz, hk⟩ => ?_)
                subst hz
                have hS := hS.after0 hk
                first | refine O_pick_true rfl rfl rfl rfl ?_ | refine O_pick_false rfl rfl rfl rfl ?_
                refine O_assign rfl rfl rfl ?_
                refine O_end ?_
                refine W_ret ⟨_, rfl, ?_⟩
                exact ⟨rfl, _, hS⟩
              · skip
                refine O_skip rfl rfl ?_
                refine O_skip rfl rfl ?_
                first | refine O_pick_true rfl rfl rfl rfl ?_ | refine O_pick_false rfl rfl rfl rfl ?_
                refine O_eql_bool rfl rfl rfl rfl ?_
                refine O_know 78 (.bool true) rfl (congrArg Value.bool (by rw [code_eq]; simp_all)) ?_
                first | refine O_pick_true rfl rfl rfl rfl ?_ | refine O_pick_false rfl rfl rfl rfl ?_
                refine O_move rfl rfl rfl ?_
                refine O_know 80 (.bool true) rfl (congrArg Value.bool (rfl)) ?_
                have hcall := known_spec (w0 := w)
                refine O_call rfl rfl rfl hcall (fun r w ⟨hz, hk⟩ => ?_)
                subst hz
                have hS := hS.after0 hk
                first | refine O_pick_true rfl rfl rfl rfl ?_ | refine O_pick_false rfl rfl rfl rfl ?_
                refine O_assign rfl rfl rfl ?_
                refine O_end ?_
                refine W_ret ⟨_, rfl, ?_⟩
                exact ⟨rfl, _, hS⟩
          · skip
            refine O_skip rfl rfl ?_
            refine O_skip rfl rfl ?_
            first | refine O_pick_true rfl rfl rfl rfl ?_ | refine O_pick_false rfl rfl rfl rfl ?_
            refine O_move rfl rfl rfl ?_
            refine O_know 42 (.bool false) rfl (congrArg Value.bool (rfl)) ?_
            refine O_skip rfl rfl ?_
            refine O_skip rfl rfl ?_
            first | refine O_pick_true rfl rfl rfl rfl ?_ | refine O_pick_false rfl rfl rfl rfl ?_
            refine O_move rfl rfl rfl ?_
            refine O_know 46 (.bool false) rfl (congrArg Value.bool (rfl)) ?_
            refine O_skip rfl rfl ?_
            refine O_skip rfl rfl ?_
            first | refine O_pick_true rfl rfl rfl rfl ?_ | refine O_pick_false rfl rfl rfl rfl ?_
            refine O_know 49 (.bool (okb k f s v)) rfl (congrArg Value.bool ((by (try simp only [decide_eq_true_eq, decide_eq_false_iff_not] at *); unfold okb; first | (rw [decide_eq_decide]; omega) | (symm; rw [decide_eq_false_iff_not]; omega)))) ?_
            refine O_assign rfl rfl rfl ?_
            refine O_end ?_
            refine W_seq ?_
            refine W_region ?_
            refine O_loadAgg (vs := (bm1 k f s v).cs) rfl rfl rfl rfl rfl (rd_all hS) ?_
            have hcall := encodeMsg_spec (ok_bm1 k f s v w)
            rw [msgok_bm1] at hcall
            refine O_call rfl rfl rfl hcall (fun r w ⟨u1, G1, hz, hG1, hk⟩ => ?_)
            subst hz
            have hS := hS.after0 hk
            refine O_move rfl rfl rfl ?_
            refine O_extract rfl rfl rfl rfl ?_
            refine O_extract rfl rfl rfl rfl ?_
            refine O_assign rfl rfl rfl ?_
            refine O_assign rfl rfl rfl ?_
            refine O_end ?_
            refine W_seq ?_
            refine W_region ?_
            refine O_move rfl rfl rfl ?_
            refine O_move rfl rfl rfl ?_
            refine O_move rfl rfl rfl ?_
            refine O_move rfl rfl rfl ?_
            refine O_build (c := (bvt k f s v).cs.toArray) rfl rfl rfl (fun _ => by kernel_rfl) ?_
            refine O_buildSlice (e := 29) (c := (bvt k f s v).cs.toArray) hS rfl rfl rfl (fun w => by kernel_rfl) (fun b61 w hS => ?_)
            have hn61 := rd_all hS
            refine O_build (c := (bm2 k f s v b61).cs.toArray) rfl rfl rfl (fun _ => by kernel_rfl) ?_
            have hcall := encodeMsg_spec (ok_bm2 k f s v b61 w hn61)
            rw [msgok_bm2] at hcall
            refine O_call rfl rfl rfl hcall (fun r w ⟨u2, G2, hz, hG2, hk⟩ => ?_)
            subst hz
            have hS := hS.after0 hk
            refine O_move rfl rfl rfl ?_
            refine O_extract rfl rfl rfl rfl ?_
            refine O_extract rfl rfl rfl rfl ?_
            refine O_assign rfl rfl rfl ?_
            refine O_assign rfl rfl rfl ?_
            refine O_end ?_
            refine W_seq ?_
            refine W_region ?_
            refine O_move rfl rfl rfl ?_
            refine O_bin rfl rfl rfl rfl rfl ?_
            refine O_move rfl rfl rfl ?_
            refine O_eql_bool rfl rfl rfl rfl ?_
            refine O_know 69 (.bool true) rfl (congrArg Value.bool (by rw [code_eq]; simp)) ?_
            refine O_move rfl rfl rfl ?_
            refine O_know 70 (.bool true) rfl (congrArg Value.bool (rfl)) ?_
            refine O_move rfl rfl rfl ?_
            refine O_bin rfl rfl rfl rfl rfl ?_
            refine O_move rfl rfl rfl ?_
            refine O_move rfl rfl rfl ?_
            refine O_part 74 rfl (fun c74 => ?_) (fun c74 => ?_)
            · skip
              refine O_move rfl rfl rfl ?_
              refine O_bin rfl rfl rfl rfl rfl ?_
              first | refine O_pick_true rfl rfl rfl rfl ?_ | refine O_pick_false rfl rfl rfl rfl ?_
              refine O_eql_bool rfl rfl rfl rfl ?_
              refine O_know 78 (.bool true) rfl (congrArg Value.bool (by rw [code_eq]; simp_all)) ?_
              first | refine O_pick_true rfl rfl rfl rfl ?_ | refine O_pick_false rfl rfl rfl rfl ?_
              refine O_move rfl rfl rfl ?_
              refine O_know 80 (.bool true) rfl (congrArg Value.bool (rfl)) ?_
              have hcall := known_spec (w0 := w)
              refine O_call rfl rfl rfl hcall (fun r w ⟨hz, hk⟩ => ?_)
              subst hz
              have hS := hS.after0 hk
              first | refine O_pick_true rfl rfl rfl rfl ?_ | refine O_pick_false rfl rfl rfl rfl ?_
              refine O_assign rfl rfl rfl ?_
              refine O_end ?_
              refine W_ret ⟨_, rfl, ?_⟩
              exact ⟨rfl, _, hS⟩
            · skip
              refine O_skip rfl rfl ?_
              refine O_skip rfl rfl ?_
              first | refine O_pick_true rfl rfl rfl rfl ?_ | refine O_pick_false rfl rfl rfl rfl ?_
              refine O_eql_bool rfl rfl rfl rfl ?_
              refine O_know 78 (.bool true) rfl (congrArg Value.bool (by rw [code_eq]; simp_all)) ?_
              first | refine O_pick_true rfl rfl rfl rfl ?_ | refine O_pick_false rfl rfl rfl rfl ?_
              refine O_move rfl rfl rfl ?_
              refine O_know 80 (.bool true) rfl (congrArg Value.bool (rfl)) ?_
              have hcall := known_spec (w0 := w)
              refine O_call rfl rfl rfl hcall (fun r w ⟨hz, hk⟩ => ?_)
              subst hz
              have hS := hS.after0 hk
              first | refine O_pick_true rfl rfl rfl rfl ?_ | refine O_pick_false rfl rfl rfl rfl ?_
              refine O_assign rfl rfl rfl ?_
              refine O_end ?_
              refine W_ret ⟨_, rfl, ?_⟩
              exact ⟨rfl, _, hS⟩
        · skip
          refine O_skip rfl rfl ?_
          refine O_skip rfl rfl ?_
          first | refine O_pick_true rfl rfl rfl rfl ?_ | refine O_pick_false rfl rfl rfl rfl ?_
          refine O_move rfl rfl rfl ?_
          refine O_know 38 (.bool false) rfl (congrArg Value.bool (rfl)) ?_
          refine O_skip rfl rfl ?_
          refine O_skip rfl rfl ?_
          first | refine O_pick_true rfl rfl rfl rfl ?_ | refine O_pick_false rfl rfl rfl rfl ?_
          refine O_move rfl rfl rfl ?_
          refine O_know 42 (.bool false) rfl (congrArg Value.bool (rfl)) ?_
          refine O_skip rfl rfl ?_
          refine O_skip rfl rfl ?_
          first | refine O_pick_true rfl rfl rfl rfl ?_ | refine O_pick_false rfl rfl rfl rfl ?_
          refine O_move rfl rfl rfl ?_
          refine O_know 46 (.bool false) rfl (congrArg Value.bool (rfl)) ?_
          refine O_skip rfl rfl ?_
          refine O_skip rfl rfl ?_
          first | refine O_pick_true rfl rfl rfl rfl ?_ | refine O_pick_false rfl rfl rfl rfl ?_
          refine O_know 49 (.bool (okb k f s v)) rfl (congrArg Value.bool ((by (try simp only [decide_eq_true_eq, decide_eq_false_iff_not] at *); unfold okb; first | (rw [decide_eq_decide]; omega) | (symm; rw [decide_eq_false_iff_not]; omega)))) ?_
          refine O_assign rfl rfl rfl ?_
          refine O_end ?_
          refine W_seq ?_
          refine W_region ?_
          refine O_loadAgg (vs := (bm1 k f s v).cs) rfl rfl rfl rfl rfl (rd_all hS) ?_
          have hcall := encodeMsg_spec (ok_bm1 k f s v w)
          rw [msgok_bm1] at hcall
          refine O_call rfl rfl rfl hcall (fun r w ⟨u1, G1, hz, hG1, hk⟩ => ?_)
          subst hz
          have hS := hS.after0 hk
          refine O_move rfl rfl rfl ?_
          refine O_extract rfl rfl rfl rfl ?_
          refine O_extract rfl rfl rfl rfl ?_
          refine O_assign rfl rfl rfl ?_
          refine O_assign rfl rfl rfl ?_
          refine O_end ?_
          refine W_seq ?_
          refine W_region ?_
          refine O_move rfl rfl rfl ?_
          refine O_move rfl rfl rfl ?_
          refine O_move rfl rfl rfl ?_
          refine O_move rfl rfl rfl ?_
          refine O_build (c := (bvt k f s v).cs.toArray) rfl rfl rfl (fun _ => by kernel_rfl) ?_
          refine O_buildSlice (e := 29) (c := (bvt k f s v).cs.toArray) hS rfl rfl rfl (fun w => by kernel_rfl) (fun b61 w hS => ?_)
          have hn61 := rd_all hS
          refine O_build (c := (bm2 k f s v b61).cs.toArray) rfl rfl rfl (fun _ => by kernel_rfl) ?_
          have hcall := encodeMsg_spec (ok_bm2 k f s v b61 w hn61)
          rw [msgok_bm2] at hcall
          refine O_call rfl rfl rfl hcall (fun r w ⟨u2, G2, hz, hG2, hk⟩ => ?_)
          subst hz
          have hS := hS.after0 hk
          refine O_move rfl rfl rfl ?_
          refine O_extract rfl rfl rfl rfl ?_
          refine O_extract rfl rfl rfl rfl ?_
          refine O_assign rfl rfl rfl ?_
          refine O_assign rfl rfl rfl ?_
          refine O_end ?_
          refine W_seq ?_
          refine W_region ?_
          refine O_move rfl rfl rfl ?_
          refine O_bin rfl rfl rfl rfl rfl ?_
          refine O_move rfl rfl rfl ?_
          refine O_eql_bool rfl rfl rfl rfl ?_
          refine O_know 69 (.bool true) rfl (congrArg Value.bool (by rw [code_eq]; simp)) ?_
          refine O_move rfl rfl rfl ?_
          refine O_know 70 (.bool true) rfl (congrArg Value.bool (rfl)) ?_
          refine O_move rfl rfl rfl ?_
          refine O_bin rfl rfl rfl rfl rfl ?_
          refine O_move rfl rfl rfl ?_
          refine O_move rfl rfl rfl ?_
          refine O_part 74 rfl (fun c74 => ?_) (fun c74 => ?_)
          · skip
            refine O_move rfl rfl rfl ?_
            refine O_bin rfl rfl rfl rfl rfl ?_
            first | refine O_pick_true rfl rfl rfl rfl ?_ | refine O_pick_false rfl rfl rfl rfl ?_
            refine O_eql_bool rfl rfl rfl rfl ?_
            refine O_know 78 (.bool true) rfl (congrArg Value.bool (by rw [code_eq]; simp_all)) ?_
            first | refine O_pick_true rfl rfl rfl rfl ?_ | refine O_pick_false rfl rfl rfl rfl ?_
            refine O_move rfl rfl rfl ?_
            refine O_know 80 (.bool true) rfl (congrArg Value.bool (rfl)) ?_
            have hcall := known_spec (w0 := w)
            refine O_call rfl rfl rfl hcall (fun r w ⟨hz, hk⟩ => ?_)
            subst hz
            have hS := hS.after0 hk
            first | refine O_pick_true rfl rfl rfl rfl ?_ | refine O_pick_false rfl rfl rfl rfl ?_
            refine O_assign rfl rfl rfl ?_
            refine O_end ?_
            refine W_ret ⟨_, rfl, ?_⟩
            exact ⟨rfl, _, hS⟩
          · skip
            refine O_skip rfl rfl ?_
            refine O_skip rfl rfl ?_
            first | refine O_pick_true rfl rfl rfl rfl ?_ | refine O_pick_false rfl rfl rfl rfl ?_
            refine O_eql_bool rfl rfl rfl rfl ?_
            refine O_know 78 (.bool true) rfl (congrArg Value.bool (by rw [code_eq]; simp_all)) ?_
            first | refine O_pick_true rfl rfl rfl rfl ?_ | refine O_pick_false rfl rfl rfl rfl ?_
            refine O_move rfl rfl rfl ?_
            refine O_know 80 (.bool true) rfl (congrArg Value.bool (rfl)) ?_
            have hcall := known_spec (w0 := w)
            refine O_call rfl rfl rfl hcall (fun r w ⟨hz, hk⟩ => ?_)
            subst hz
            have hS := hS.after0 hk
            first | refine O_pick_true rfl rfl rfl rfl ?_ | refine O_pick_false rfl rfl rfl rfl ?_
            refine O_assign rfl rfl rfl ?_
            refine O_end ?_
            refine W_ret ⟨_, rfl, ?_⟩
            exact ⟨rfl, _, hS⟩
      · skip
        refine O_skip rfl rfl ?_
        refine O_skip rfl rfl ?_
        first | refine O_pick_true rfl rfl rfl rfl ?_ | refine O_pick_false rfl rfl rfl rfl ?_
        refine O_move rfl rfl rfl ?_
        refine O_know 34 (.bool false) rfl (congrArg Value.bool (rfl)) ?_
        refine O_skip rfl rfl ?_
        refine O_skip rfl rfl ?_
        first | refine O_pick_true rfl rfl rfl rfl ?_ | refine O_pick_false rfl rfl rfl rfl ?_
        refine O_move rfl rfl rfl ?_
        refine O_know 38 (.bool false) rfl (congrArg Value.bool (rfl)) ?_
        refine O_skip rfl rfl ?_
        refine O_skip rfl rfl ?_
        first | refine O_pick_true rfl rfl rfl rfl ?_ | refine O_pick_false rfl rfl rfl rfl ?_
        refine O_move rfl rfl rfl ?_
        refine O_know 42 (.bool false) rfl (congrArg Value.bool (rfl)) ?_
        refine O_skip rfl rfl ?_
        refine O_skip rfl rfl ?_
        first | refine O_pick_true rfl rfl rfl rfl ?_ | refine O_pick_false rfl rfl rfl rfl ?_
        refine O_move rfl rfl rfl ?_
        refine O_know 46 (.bool false) rfl (congrArg Value.bool (rfl)) ?_
        refine O_skip rfl rfl ?_
        refine O_skip rfl rfl ?_
        first | refine O_pick_true rfl rfl rfl rfl ?_ | refine O_pick_false rfl rfl rfl rfl ?_
        refine O_know 49 (.bool (okb k f s v)) rfl (congrArg Value.bool ((by (try simp only [decide_eq_true_eq, decide_eq_false_iff_not] at *); unfold okb; first | (rw [decide_eq_decide]; omega) | (symm; rw [decide_eq_false_iff_not]; omega)))) ?_
        refine O_assign rfl rfl rfl ?_
        refine O_end ?_
        refine W_seq ?_
        refine W_region ?_
        refine O_loadAgg (vs := (bm1 k f s v).cs) rfl rfl rfl rfl rfl (rd_all hS) ?_
        have hcall := encodeMsg_spec (ok_bm1 k f s v w)
        rw [msgok_bm1] at hcall
        refine O_call rfl rfl rfl hcall (fun r w ⟨u1, G1, hz, hG1, hk⟩ => ?_)
        subst hz
        have hS := hS.after0 hk
        refine O_move rfl rfl rfl ?_
        refine O_extract rfl rfl rfl rfl ?_
        refine O_extract rfl rfl rfl rfl ?_
        refine O_assign rfl rfl rfl ?_
        refine O_assign rfl rfl rfl ?_
        refine O_end ?_
        refine W_seq ?_
        refine W_region ?_
        refine O_move rfl rfl rfl ?_
        refine O_move rfl rfl rfl ?_
        refine O_move rfl rfl rfl ?_
        refine O_move rfl rfl rfl ?_
        refine O_build (c := (bvt k f s v).cs.toArray) rfl rfl rfl (fun _ => by kernel_rfl) ?_
        refine O_buildSlice (e := 29) (c := (bvt k f s v).cs.toArray) hS rfl rfl rfl (fun w => by kernel_rfl) (fun b61 w hS => ?_)
        have hn61 := rd_all hS
        refine O_build (c := (bm2 k f s v b61).cs.toArray) rfl rfl rfl (fun _ => by kernel_rfl) ?_
        have hcall := encodeMsg_spec (ok_bm2 k f s v b61 w hn61)
        rw [msgok_bm2] at hcall
        refine O_call rfl rfl rfl hcall (fun r w ⟨u2, G2, hz, hG2, hk⟩ => ?_)
        subst hz
        have hS := hS.after0 hk
        refine O_move rfl rfl rfl ?_
        refine O_extract rfl rfl rfl rfl ?_
        refine O_extract rfl rfl rfl rfl ?_
        refine O_assign rfl rfl rfl ?_
        refine O_assign rfl rfl rfl ?_
        refine O_end ?_
        refine W_seq ?_
        refine W_region ?_
        refine O_move rfl rfl rfl ?_
        refine O_bin rfl rfl rfl rfl rfl ?_
        refine O_move rfl rfl rfl ?_
        refine O_eql_bool rfl rfl rfl rfl ?_
        refine O_know 69 (.bool true) rfl (congrArg Value.bool (by rw [code_eq]; simp)) ?_
        refine O_move rfl rfl rfl ?_
        refine O_know 70 (.bool true) rfl (congrArg Value.bool (rfl)) ?_
        refine O_move rfl rfl rfl ?_
        refine O_bin rfl rfl rfl rfl rfl ?_
        refine O_move rfl rfl rfl ?_
        refine O_move rfl rfl rfl ?_
        refine O_part 74 rfl (fun c74 => ?_) (fun c74 => ?_)
        · skip
          refine O_move rfl rfl rfl ?_
          refine O_bin rfl rfl rfl rfl rfl ?_
          first | refine O_pick_true rfl rfl rfl rfl ?_ | refine O_pick_false rfl rfl rfl rfl ?_
          refine O_eql_bool rfl rfl rfl rfl ?_
          refine O_know 78 (.bool true) rfl (congrArg Value.bool (by rw [code_eq]; simp_all)) ?_
          first | refine O_pick_true rfl rfl rfl rfl ?_ | refine O_pick_false rfl rfl rfl rfl ?_
          refine O_move rfl rfl rfl ?_
          refine O_know 80 (.bool true) rfl (congrArg Value.bool (rfl)) ?_
          have hcall := known_spec (w0 := w)
          refine O_call rfl rfl rfl hcall (fun r w ⟨hz, hk⟩ => ?_)
          subst hz
          have hS := hS.after0 hk
          first | refine O_pick_true rfl rfl rfl rfl ?_ | refine O_pick_false rfl rfl rfl rfl ?_
          refine O_assign rfl rfl rfl ?_
          refine O_end ?_
          refine W_ret ⟨_, rfl, ?_⟩
          exact ⟨rfl, _, hS⟩
        · skip
          refine O_skip rfl rfl ?_
          refine O_skip rfl rfl ?_
          first | refine O_pick_true rfl rfl rfl rfl ?_ | refine O_pick_false rfl rfl rfl rfl ?_
          refine O_eql_bool rfl rfl rfl rfl ?_
          refine O_know 78 (.bool true) rfl (congrArg Value.bool (by rw [code_eq]; simp_all)) ?_
          first | refine O_pick_true rfl rfl rfl rfl ?_ | refine O_pick_false rfl rfl rfl rfl ?_
          refine O_move rfl rfl rfl ?_
          refine O_know 80 (.bool true) rfl (congrArg Value.bool (rfl)) ?_
          have hcall := known_spec (w0 := w)
          refine O_call rfl rfl rfl hcall (fun r w ⟨hz, hk⟩ => ?_)
          subst hz
          have hS := hS.after0 hk
          first | refine O_pick_true rfl rfl rfl rfl ?_ | refine O_pick_false rfl rfl rfl rfl ?_
          refine O_assign rfl rfl rfl ?_
          refine O_end ?_
          refine W_ret ⟨_, rfl, ?_⟩
          exact ⟨rfl, _, hS⟩
    · skip
      refine O_skip rfl rfl ?_
      refine O_skip rfl rfl ?_
      first | refine O_pick_true rfl rfl rfl rfl ?_ | refine O_pick_false rfl rfl rfl rfl ?_
      refine O_move rfl rfl rfl ?_
      refine O_know 30 (.bool false) rfl (congrArg Value.bool (rfl)) ?_
      refine O_skip rfl rfl ?_
      refine O_skip rfl rfl ?_
      first | refine O_pick_true rfl rfl rfl rfl ?_ | refine O_pick_false rfl rfl rfl rfl ?_
      refine O_move rfl rfl rfl ?_
      refine O_know 34 (.bool false) rfl (congrArg Value.bool (rfl)) ?_
      refine O_skip rfl rfl ?_
      refine O_skip rfl rfl ?_
      first | refine O_pick_true rfl rfl rfl rfl ?_ | refine O_pick_false rfl rfl rfl rfl ?_
      refine O_move rfl rfl rfl ?_
      refine O_know 38 (.bool false) rfl (congrArg Value.bool (rfl)) ?_
      refine O_skip rfl rfl ?_
      refine O_skip rfl rfl ?_
      first | refine O_pick_true rfl rfl rfl rfl ?_ | refine O_pick_false rfl rfl rfl rfl ?_
      refine O_move rfl rfl rfl ?_
      refine O_know 42 (.bool false) rfl (congrArg Value.bool (rfl)) ?_
      refine O_skip rfl rfl ?_
      refine O_skip rfl rfl ?_
      first | refine O_pick_true rfl rfl rfl rfl ?_ | refine O_pick_false rfl rfl rfl rfl ?_
      refine O_move rfl rfl rfl ?_
      refine O_know 46 (.bool false) rfl (congrArg Value.bool (rfl)) ?_
      refine O_skip rfl rfl ?_
      refine O_skip rfl rfl ?_
      first | refine O_pick_true rfl rfl rfl rfl ?_ | refine O_pick_false rfl rfl rfl rfl ?_
      refine O_know 49 (.bool (okb k f s v)) rfl (congrArg Value.bool ((by (try simp only [decide_eq_true_eq, decide_eq_false_iff_not] at *); unfold okb; first | (rw [decide_eq_decide]; omega) | (symm; rw [decide_eq_false_iff_not]; omega)))) ?_
      refine O_assign rfl rfl rfl ?_
      refine O_end ?_
      refine W_seq ?_
      refine W_region ?_
      refine O_loadAgg (vs := (bm1 k f s v).cs) rfl rfl rfl rfl rfl (rd_all hS) ?_
      have hcall := encodeMsg_spec (ok_bm1 k f s v w)
      rw [msgok_bm1] at hcall
      refine O_call rfl rfl rfl hcall (fun r w ⟨u1, G1, hz, hG1, hk⟩ => ?_)
      subst hz
      have hS := hS.after0 hk
      refine O_move rfl rfl rfl ?_
      refine O_extract rfl rfl rfl rfl ?_
      refine O_extract rfl rfl rfl rfl ?_
      refine O_assign rfl rfl rfl ?_
      refine O_assign rfl rfl rfl ?_
      refine O_end ?_
      refine W_seq ?_
      refine W_region ?_
      refine O_move rfl rfl rfl ?_
      refine O_move rfl rfl rfl ?_
      refine O_move rfl rfl rfl ?_
      refine O_move rfl rfl rfl ?_
      refine O_build (c := (bvt k f s v).cs.toArray) rfl rfl rfl (fun _ => by kernel_rfl) ?_
      refine O_buildSlice (e := 29) (c := (bvt k f s v).cs.toArray) hS rfl rfl rfl (fun w => by kernel_rfl) (fun b61 w hS => ?_)
      have hn61 := rd_all hS
      refine O_build (c := (bm2 k f s v b61).cs.toArray) rfl rfl rfl (fun _ => by kernel_rfl) ?_
      have hcall := encodeMsg_spec (ok_bm2 k f s v b61 w hn61)
      rw [msgok_bm2] at hcall
      refine O_call rfl rfl rfl hcall (fun r w ⟨u2, G2, hz, hG2, hk⟩ => ?_)
      subst hz
      have hS := hS.after0 hk
      refine O_move rfl rfl rfl ?_
      refine O_extract rfl rfl rfl rfl ?_
      refine O_extract rfl rfl rfl rfl ?_
      refine O_assign rfl rfl rfl ?_
      refine O_assign rfl rfl rfl ?_
      refine O_end ?_
      refine W_seq ?_
      refine W_region ?_
      refine O_move rfl rfl rfl ?_
      refine O_bin rfl rfl rfl rfl rfl ?_
      refine O_move rfl rfl rfl ?_
      refine O_eql_bool rfl rfl rfl rfl ?_
      refine O_know 69 (.bool true) rfl (congrArg Value.bool (by rw [code_eq]; simp)) ?_
      refine O_move rfl rfl rfl ?_
      refine O_know 70 (.bool true) rfl (congrArg Value.bool (rfl)) ?_
      refine O_move rfl rfl rfl ?_
      refine O_bin rfl rfl rfl rfl rfl ?_
      refine O_move rfl rfl rfl ?_
      refine O_move rfl rfl rfl ?_
      refine O_part 74 rfl (fun c74 => ?_) (fun c74 => ?_)
      · skip
        refine O_move rfl rfl rfl ?_
        refine O_bin rfl rfl rfl rfl rfl ?_
        first | refine O_pick_true rfl rfl rfl rfl ?_ | refine O_pick_false rfl rfl rfl rfl ?_
        refine O_eql_bool rfl rfl rfl rfl ?_
        refine O_know 78 (.bool true) rfl (congrArg Value.bool (by rw [code_eq]; simp_all)) ?_
        first | refine O_pick_true rfl rfl rfl rfl ?_ | refine O_pick_false rfl rfl rfl rfl ?_
        refine O_move rfl rfl rfl ?_
        refine O_know 80 (.bool true) rfl (congrArg Value.bool (rfl)) ?_
        have hcall := known_spec (w0 := w)
        refine O_call rfl rfl rfl hcall (fun r w ⟨hz, hk⟩ => ?_)
        subst hz
        have hS := hS.after0 hk
        first | refine O_pick_true rfl rfl rfl rfl ?_ | refine O_pick_false rfl rfl rfl rfl ?_
        refine O_assign rfl rfl rfl ?_
        refine O_end ?_
        refine W_ret ⟨_, rfl, ?_⟩
        exact ⟨rfl, _, hS⟩
      · skip
        refine O_skip rfl rfl ?_
        refine O_skip rfl rfl ?_
        first | refine O_pick_true rfl rfl rfl rfl ?_ | refine O_pick_false rfl rfl rfl rfl ?_
        refine O_eql_bool rfl rfl rfl rfl ?_
        refine O_know 78 (.bool true) rfl (congrArg Value.bool (by rw [code_eq]; simp_all)) ?_
        first | refine O_pick_true rfl rfl rfl rfl ?_ | refine O_pick_false rfl rfl rfl rfl ?_
        refine O_move rfl rfl rfl ?_
        refine O_know 80 (.bool true) rfl (congrArg Value.bool (rfl)) ?_
        have hcall := known_spec (w0 := w)
        refine O_call rfl rfl rfl hcall (fun r w ⟨hz, hk⟩ => ?_)
        subst hz
        have hS := hS.after0 hk
        first | refine O_pick_true rfl rfl rfl rfl ?_ | refine O_pick_false rfl rfl rfl rfl ?_
        refine O_assign rfl rfl rfl ?_
        refine O_end ?_
        refine W_ret ⟨_, rfl, ?_⟩
        exact ⟨rfl, _, hS⟩
  · skip
    refine O_skip rfl rfl ?_
    refine O_skip rfl rfl ?_
    first | refine O_pick_true rfl rfl rfl rfl ?_ | refine O_pick_false rfl rfl rfl rfl ?_
    refine O_move rfl rfl rfl ?_
    refine O_know 26 (.bool false) rfl (congrArg Value.bool (rfl)) ?_
    refine O_skip rfl rfl ?_
    refine O_skip rfl rfl ?_
    first | refine O_pick_true rfl rfl rfl rfl ?_ | refine O_pick_false rfl rfl rfl rfl ?_
    refine O_move rfl rfl rfl ?_
    refine O_know 30 (.bool false) rfl (congrArg Value.bool (rfl)) ?_
    refine O_skip rfl rfl ?_
    refine O_skip rfl rfl ?_
    first | refine O_pick_true rfl rfl rfl rfl ?_ | refine O_pick_false rfl rfl rfl rfl ?_
    refine O_move rfl rfl rfl ?_
    refine O_know 34 (.bool false) rfl (congrArg Value.bool (rfl)) ?_
    refine O_skip rfl rfl ?_
    refine O_skip rfl rfl ?_
    first | refine O_pick_true rfl rfl rfl rfl ?_ | refine O_pick_false rfl rfl rfl rfl ?_
    refine O_move rfl rfl rfl ?_
    refine O_know 38 (.bool false) rfl (congrArg Value.bool (rfl)) ?_
    refine O_skip rfl rfl ?_
    refine O_skip rfl rfl ?_
    first | refine O_pick_true rfl rfl rfl rfl ?_ | refine O_pick_false rfl rfl rfl rfl ?_
    refine O_move rfl rfl rfl ?_
    refine O_know 42 (.bool false) rfl (congrArg Value.bool (rfl)) ?_
    refine O_skip rfl rfl ?_
    refine O_skip rfl rfl ?_
    first | refine O_pick_true rfl rfl rfl rfl ?_ | refine O_pick_false rfl rfl rfl rfl ?_
    refine O_move rfl rfl rfl ?_
    refine O_know 46 (.bool false) rfl (congrArg Value.bool (rfl)) ?_
    refine O_skip rfl rfl ?_
    refine O_skip rfl rfl ?_
    first | refine O_pick_true rfl rfl rfl rfl ?_ | refine O_pick_false rfl rfl rfl rfl ?_
    refine O_know 49 (.bool (okb k f s v)) rfl (congrArg Value.bool ((by (try simp only [decide_eq_true_eq, decide_eq_false_iff_not] at *); unfold okb; first | (rw [decide_eq_decide]; omega) | (symm; rw [decide_eq_false_iff_not]; omega)))) ?_
    refine O_assign rfl rfl rfl ?_
    refine O_end ?_
    refine W_seq ?_
    refine W_region ?_
    refine O_loadAgg (vs := (bm1 k f s v).cs) rfl rfl rfl rfl rfl (rd_all hS) ?_
    have hcall := encodeMsg_spec (ok_bm1 k f s v w)
    rw [msgok_bm1] at hcall
    refine O_call rfl rfl rfl hcall (fun r w ⟨u1, G1, hz, hG1, hk⟩ => ?_)
    subst hz
    have hS := hS.after0 hk
    refine O_move rfl rfl rfl ?_
    refine O_extract rfl rfl rfl rfl ?_
    refine O_extract rfl rfl rfl rfl ?_
    refine O_assign rfl rfl rfl ?_
    refine O_assign rfl rfl rfl ?_
    refine O_end ?_
    refine W_seq ?_
    refine W_region ?_
    refine O_move rfl rfl rfl ?_
    refine O_move rfl rfl rfl ?_
    refine O_move rfl rfl rfl ?_
    refine O_move rfl rfl rfl ?_
    refine O_build (c := (bvt k f s v).cs.toArray) rfl rfl rfl (fun _ => by kernel_rfl) ?_
    refine O_buildSlice (e := 29) (c := (bvt k f s v).cs.toArray) hS rfl rfl rfl (fun w => by kernel_rfl) (fun b61 w hS => ?_)
    have hn61 := rd_all hS
    refine O_build (c := (bm2 k f s v b61).cs.toArray) rfl rfl rfl (fun _ => by kernel_rfl) ?_
    have hcall := encodeMsg_spec (ok_bm2 k f s v b61 w hn61)
    rw [msgok_bm2] at hcall
    refine O_call rfl rfl rfl hcall (fun r w ⟨u2, G2, hz, hG2, hk⟩ => ?_)
    subst hz
    have hS := hS.after0 hk
    refine O_move rfl rfl rfl ?_
    refine O_extract rfl rfl rfl rfl ?_
    refine O_extract rfl rfl rfl rfl ?_
    refine O_assign rfl rfl rfl ?_
    refine O_assign rfl rfl rfl ?_
    refine O_end ?_
    refine W_seq ?_
    refine W_region ?_
    refine O_move rfl rfl rfl ?_
    refine O_bin rfl rfl rfl rfl rfl ?_
    refine O_move rfl rfl rfl ?_
    refine O_eql_bool rfl rfl rfl rfl ?_
    refine O_know 69 (.bool true) rfl (congrArg Value.bool (by rw [code_eq]; simp)) ?_
    refine O_move rfl rfl rfl ?_
    refine O_know 70 (.bool true) rfl (congrArg Value.bool (rfl)) ?_
    refine O_move rfl rfl rfl ?_
    refine O_bin rfl rfl rfl rfl rfl ?_
    refine O_move rfl rfl rfl ?_
    refine O_move rfl rfl rfl ?_
    refine O_part 74 rfl (fun c74 => ?_) (fun c74 => ?_)
    · skip
      refine O_move rfl rfl rfl ?_
      refine O_bin rfl rfl rfl rfl rfl ?_
      first | refine O_pick_true rfl rfl rfl rfl ?_ | refine O_pick_false rfl rfl rfl rfl ?_
      refine O_eql_bool rfl rfl rfl rfl ?_
      refine O_know 78 (.bool true) rfl (congrArg Value.bool (by rw [code_eq]; simp_all)) ?_
      first | refine O_pick_true rfl rfl rfl rfl ?_ | refine O_pick_false rfl rfl rfl rfl ?_
      refine O_move rfl rfl rfl ?_
      refine O_know 80 (.bool true) rfl (congrArg Value.bool (rfl)) ?_
      have hcall := known_spec (w0 := w)
      refine O_call rfl rfl rfl hcall (fun r w ⟨hz, hk⟩ => ?_)
      subst hz
      have hS := hS.after0 hk
      first | refine O_pick_true rfl rfl rfl rfl ?_ | refine O_pick_false rfl rfl rfl rfl ?_
      refine O_assign rfl rfl rfl ?_
      refine O_end ?_
      refine W_ret ⟨_, rfl, ?_⟩
      exact ⟨rfl, _, hS⟩
    · skip
      refine O_skip rfl rfl ?_
      refine O_skip rfl rfl ?_
      first | refine O_pick_true rfl rfl rfl rfl ?_ | refine O_pick_false rfl rfl rfl rfl ?_
      refine O_eql_bool rfl rfl rfl rfl ?_
      refine O_know 78 (.bool true) rfl (congrArg Value.bool (by rw [code_eq]; simp_all)) ?_
      first | refine O_pick_true rfl rfl rfl rfl ?_ | refine O_pick_false rfl rfl rfl rfl ?_
      refine O_move rfl rfl rfl ?_
      refine O_know 80 (.bool true) rfl (congrArg Value.bool (rfl)) ?_
      have hcall := known_spec (w0 := w)
      refine O_call rfl rfl rfl hcall (fun r w ⟨hz, hk⟩ => ?_)
      subst hz
      have hS := hS.after0 hk
      first | refine O_pick_true rfl rfl rfl rfl ?_ | refine O_pick_false rfl rfl rfl rfl ?_
      refine O_assign rfl rfl rfl ?_
      refine O_end ?_
      refine W_ret ⟨_, rfl, ?_⟩
      exact ⟨rfl, _, hS⟩

end Go.Proofs.Ytaglgnjamihdnaa.R
