/- An operation as bytes. -/
import Derived.Test.YtaglgnjamihdnaaDoorWn
import Derived.Test.YtaglgnjamihdnaaDoorWb
import Derived.Test.YtaglgnjamihdnaaDoorOb
namespace Go.Proofs.YtaglgnjamihdnaaDoor.R
open Go Go.RowKit Go.Proofs
set_option linter.unusedVariables false
set_option linter.unusedSimpArgs false
set_option maxRecDepth 20000

def cmI (b : Bool) : Int := if b then 1 else 0
/-- An operation's bytes. -/
def opb (o : Opr) : List UInt8 := encs [2, o.k, o.c, o.s] ++ encRow o.nm ++ encs [o.p, o.e, o.t, o.q, cmI o.cm]
theorem opok_len {o : Opr} (h : opok o = true) : o.nm.length ≤ 8 := by
  unfold opok at h
  simp only [Bool.and_eq_true] at h
  obtain ⟨_, h⟩ := h
  split at h
  · simp only [Bool.and_eq_true, nameok, decide_eq_true_eq] at h
    omega
  · split at h
    · simp only [Bool.and_eq_true, decide_eq_true_eq] at h
      rw [h.1.1.1]; decide
    · split at h
      · simp only [Bool.and_eq_true, decide_eq_true_eq] at h
        rw [h.1.1.1]; decide
      · split at h
        · simp only [Bool.and_eq_true, decide_eq_true_eq] at h
          rw [h.1.1]; decide
        · cases h
theorem opb_len {o : Opr} (h : o.nm.length ≤ 100) : (opb o).length ≤ 200 := by
  have h1 := encs_len [2, o.k, o.c, o.s]
  have h2 := encs_len [o.p, o.e, o.t, o.q, cmI o.cm]
  have h3 := encRow_len o.nm (by omega)
  simp only [List.length_cons, List.length_nil] at h1 h2
  unfold opb
  simp only [List.length_append]
  omega
theorem enc_bit (b : Bool) : enc (clampN (cmI b)) = [if b then 1 else 0] := by
  cases b
  · rw [show clampN (cmI false) = 0 from by decide]; exact enc_small (by decide)
  · rw [show clampN (cmI true) = 1 from by decide]; exact enc_small (by decide)

set_option maxHeartbeats 400000 in
theorem encodeOp_spec {w0 : World} {o : Opr} : Calls Tryd.prog 7 #[.agg o.cs.toArray] w0 (Ret fun r w => ∃ v G, r = .tuple #[v, .int .i64 (if opok o then 0 else 1)] ∧ BRow v (if opok o then opb o else []) G ∧ St w0 [] [G] w) := by
  have hS : Own [] w0 := St.start w0
  refine calls_enter (l := [.agg o.cs.toArray]) Tryd.func7 rfl Tryd.ntmps7 Tryd.results7 (Nat.le_of_ble_eq_true rfl) ?_
  refine W_seq ?_
  refine W_region ?_
  refine O_box hS rfl rfl rfl (fun b1 w hS => ?_)
  refine O_assign rfl rfl rfl ?_
  refine O_assign rfl rfl rfl ?_
  refine O_end ?_
  refine W_seq ?_
  refine W_seq ?_
  refine W_region ?_
  refine O_loadAgg (vs := o.cs) rfl rfl rfl rfl rfl hS.rdAll ?_
  have hcall := isOp_spec (w0 := w) (o := o)
  refine O_call rfl rfl rfl hcall (fun r w ⟨hz, hk⟩ => ?_)
  subst hz
  have hS := hS.after0 hk
  refine O_not rfl rfl rfl ?_
  refine O_end ?_
  refine W_if rfl (fun c8 => ?_) (fun c8 => ?_)
  · skip
    refine W_seq ?_
    refine W_region ?_
    refine O_assign rfl rfl rfl ?_
    refine O_assign rfl rfl rfl ?_
    refine O_end ?_
    refine W_ret ⟨_, rfl, ?_⟩
    have hm : opok o = false := by simpa using c8
    rw [hm]
    exact ⟨_, [], rfl, Row.nil _ _, hS.bare.empty⟩
  · skip
    refine W_skip ?_
    refine W_seq ?_
    refine W_region ?_
    refine O_assign rfl rfl rfl ?_
    refine O_end ?_
    have hm : opok o = true := by simpa using c8
    have hl8 := opok_len hm
    have hl3 := encs_len [2, o.k, o.c, o.s]
    have hl4 := encs_len [o.p, o.e, o.t, o.q, cmI o.cm]
    have her := encRow_len o.nm (by omega)
    simp only [List.length_cons, List.length_nil] at hl3 hl4
    refine W_cut (fun σ w => sub σ [(1, .pointer (some ⟨b1, 0, none⟩)), (4, .int .i64 (cmI o.cm))] ∧ St w0 [] [ocell b1 o] w) ?_ ?_
    · skip
      refine W_seq ?_
      refine W_region ?_
      refine O_fieldAddr rfl rfl rfl ?_
      refine O_load rfl rfl rfl rfl (hS.cell o.c8) ?_
      refine O_end ?_
      refine W_if rfl (fun c10 => ?_) (fun c10 => ?_)
      · skip
        refine W_region ?_
        refine O_assign rfl rfl rfl ?_
        refine O_end ?_
        refine ⟨⟨rfl, congrArg (fun b => some (Value.int .i64 b)) ?_, trivial⟩, hS⟩
        unfold cmI
        first
          | rw [if_pos c10]
          | rw [if_neg (by rw [c10]; decide)]
      · skip
        refine W_skip ?_
        refine ⟨⟨rfl, congrArg (fun b => some (Value.int .i64 b)) ?_, trivial⟩, hS⟩
        unfold cmI
        first
          | rw [if_pos c10]
          | rw [if_neg (by rw [c10]; decide)]
    · skip
      rintro σ w ⟨hs, hS⟩
      refine W_weak [(1, .pointer (some ⟨b1, 0, none⟩)), (4, .int .i64 (cmI o.cm))] hs ?_
      refine W_seq ?_
      refine W_region ?_
      refine O_alloc hS rfl rfl (fun b5 w hS => ?_)
      have hS : St w0 [] [wcell b5 (.slice none 0 0), ocell b1 o] w := hS
      have hS := hS.f1
      refine O_end ?_
      refine W_seq ?_
      refine W_region ?_
      refine O_fieldAddr rfl rfl rfl ?_
      refine O_load rfl rfl rfl rfl (hS.cell o.c0) ?_
      refine O_fieldAddr rfl rfl rfl ?_
      refine O_load rfl rfl rfl rfl (hS.cell o.c1) ?_
      refine O_fieldAddr rfl rfl rfl ?_
      refine O_load rfl rfl rfl rfl (hS.cell o.c2) ?_
      refine O_lit hS rfl rfl rfl rfl rfl rfl (Nat.le_of_ble_eq_true rfl) (fun b17 w hS => ?_)
      have hn := hS.rdAll
      have ha := hS.apart_first (off := 0) (sp := none) (vs := [2, o.k, o.c, o.s].map iv)
      have hS := hS.f2.empty.f1
      have hcall := nums_spec (bs := []) (ns := [2, o.k, o.c, o.s]) (c := 4) hS.own2 (Row.nil _ _) hn (ha.sub' (by simp) (fun b hb => ids_sub (Gs' := [wcell b5 (.slice none 0 0)]) (by simp) b (by simpa [idsOf] using hb))) (by simp)
      refine O_call rfl rfl rfl hcall (fun r w ⟨hz, v1, R1, hR, hk⟩ => ?_)
      subst hz
      have hS := (hS.after2 hk).f2.drop
      rw [List.nil_append] at hR
      refine O_end ?_
      refine W_seq ?_
      refine W_region ?_
      refine O_fieldAddr rfl rfl rfl ?_
      refine O_load rfl rfl rfl rfl (hS.f2.cell o.c3) ?_
      refine O_bytes hS rfl rfl rfl (fun b21 cs21 c21 w hcs hS => ?_)
      refine O_lit hS rfl rfl rfl rfl rfl rfl (Nat.le_of_ble_eq_true rfl) (fun b22 w hS => ?_)
      have hn2 := hS.f1.rdCells hcs
      have ha2 := hS.f1.apart_first (off := 0) (sp := none) (vs := bvs o.nm)
      have hn := hS.rdAll
      have ha := hS.apart_first (off := 0) (sp := none) (vs := [.slice (some ⟨b21, 0, none⟩) o.nm.length c21])
      have hS := hS.f2.f3.f1
      have hb1 : RdB w (some ⟨b22, 0, none⟩) [o.nm] (idsOf [wcell b5 v1, R1]) := RdB.one hn rfl (ha.sub (ids_sub (by simp))) hn2 (ha2.sub (ids_sub (by simp)))
      have hcall := bytes_spec (c := 1) hS.own2 hR hb1 (by simp only [wt, List.map_cons, List.map_nil, List.sum_cons, List.sum_nil]; omega)
      refine O_call rfl rfl rfl hcall (fun r w ⟨hz, v1, R1, hR, hk⟩ => ?_)
      subst hz
      have hS := (hS.after2 hk).f2.drop.f2.drop
      rw [show encRows [o.nm] = encRow o.nm from by simp [encRows]] at hR
      refine O_end ?_
      refine W_seq ?_
      refine W_region ?_
      have hS := hS.f2
      refine O_fieldAddr rfl rfl rfl ?_
      refine O_load rfl rfl rfl rfl (hS.cell o.c4) ?_
      refine O_fieldAddr rfl rfl rfl ?_
      refine O_load rfl rfl rfl rfl (hS.cell o.c5) ?_
      refine O_fieldAddr rfl rfl rfl ?_
      refine O_load rfl rfl rfl rfl (hS.cell o.c6) ?_
      refine O_fieldAddr rfl rfl rfl ?_
      refine O_load rfl rfl rfl rfl (hS.cell o.c7) ?_
      refine O_move rfl rfl rfl ?_
      have hS := hS.f2.f2
      refine O_lit hS rfl rfl rfl rfl rfl rfl (Nat.le_of_ble_eq_true rfl) (fun b33 w hS => ?_)
      have hn := hS.rdAll
      have ha := hS.apart_first (off := 0) (sp := none) (vs := [o.p, o.e, o.t, o.q, cmI o.cm].map iv)
      have hS := hS.f1.f2.f1
      have hcall := nums_spec (bs := encs [2, o.k, o.c, o.s] ++ encRow o.nm) (ns := [o.p, o.e, o.t, o.q, cmI o.cm]) (c := 5) hS.own2 hR hn (ha.sub' (by simp) (ids_sub (by simp))) (by simp only [List.length_append, List.length_cons, List.length_nil]; omega)
      refine O_call rfl rfl rfl hcall (fun r w ⟨hz, v1, R1, hR, hk⟩ => ?_)
      subst hz
      have hS := (hS.after2 hk).f2.drop
      refine O_end ?_
      refine W_seq ?_
      refine W_region ?_
      have hcall := out_spec hS.own2 hR (by simp only [List.length_append]; omega)
      refine O_call rfl rfl rfl hcall (fun r w ⟨G, hG, hk⟩ => ?_)
      have hS := (hS.after2 hk).keep1
      refine O_assign rfl rfl rfl ?_
      refine O_assign rfl rfl rfl ?_
      refine O_end ?_
      refine W_ret ⟨_, rfl, ?_⟩
      rw [hm]
      exact ⟨_, G, rfl, hG, hS⟩

end Go.Proofs.YtaglgnjamihdnaaDoor.R
