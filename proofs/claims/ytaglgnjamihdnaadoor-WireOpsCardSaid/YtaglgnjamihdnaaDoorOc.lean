/- What the document's own functions on numbers and bytes answer. -/
import Derived.Test.YtaglgnjamihdnaaDoorOb
namespace Go.Proofs.YtaglgnjamihdnaaDoor.R
open Go Go.RowKit Go.Proofs
set_option linter.unusedVariables false
set_option linter.unusedSimpArgs false
set_option maxRecDepth 20000

theorem refNum_spec {w0 : World} {x : Int} :
    Calls Tryd.prog 44 #[.int .i64 x] w0 (Ret fun r w => ∃ G, BRow r (enc (clampN x)) G ∧ St w0 [] [G] w) := by
  have hS : Own [] w0 := St.start w0
  refine calls_enter (l := [.int .i64 x]) Tryd.func44 rfl Tryd.ntmps44 Tryd.results44 (Nat.le_of_ble_eq_true rfl) ?_
  refine W_seq ?_
  refine W_region ?_
  refine O_assign rfl rfl rfl ?_
  refine O_end ?_
  refine W_seq ?_
  refine W_region ?_
  refine O_assign rfl rfl rfl ?_
  refine O_end ?_
  refine W_seq ?_
  refine W_seq ?_
  refine W_region ?_
  refine O_move rfl rfl rfl ?_
  refine O_bin rfl rfl rfl rfl rfl ?_
  refine O_end ?_
  refine W_if rfl (fun c6 => ?_) (fun c6 => ?_)
  · skip
    refine W_region ?_
    refine O_assign rfl rfl rfl ?_
    refine O_end ?_
    refine W_seq ?_
    refine W_region ?_
    refine O_know 3 (.int .u64 ((clampN x : Nat) : Int)) rfl (congrArg (Value.int .u64) ((by (try simp only [decide_eq_true_eq] at *); (try simp only [decide_eq_false_iff_not] at *); (try rw [IntKind.wrap_u64]); unfold clampN; omega))) ?_
    refine O_assign rfl rfl rfl ?_
    refine O_end ?_
    refine W_seq ?_
    refine W_block ?_
    have hcl := clampN_le x
    refine W_loop (ι := Nat × Value × List Chunk × List UInt8) (fun i => [(3, .int .u64 (i.1 : Nat)), (4, i.2.1)])
        (fun i w => i.2.2.2 ++ enc i.1 = enc (clampN x) ∧ BRow i.2.1 i.2.2.2 i.2.2.1 ∧ St w0 [] [i.2.2.1] w ∧ i.1 ≤ 4611686018427387904)
        (fun i => i.1) (clampN x, .slice none 0 0, [], []) ⟨rfl, rfl, trivial⟩ ⟨rfl, Row.nil _ _, hS.empty, hcl⟩ ?_
    rintro ⟨u, v, R, d⟩ w ⟨hd, hR, hS, hu2⟩
    dsimp only at hd hR hS hu2 ⊢
    have hlen : d.length + (enc u).length ≤ 9 := by
      have h1 := congrArg List.length hd
      have h2 := enc_le (clampN x) hcl
      simp only [List.length_append] at h1
      omega
    have hpos := enc_pos u
    refine W_seq ?_
    refine W_seq ?_
    refine W_region ?_
    refine O_move rfl rfl rfl ?_
    refine O_bin rfl rfl rfl rfl rfl ?_
    refine O_end ?_
    refine W_if rfl (fun c12 => ?_) (fun c12 => ?_)
    · skip
      refine W_skip ?_
      refine W_block ?_
      refine W_seq ?_
      refine W_region ?_
      refine O_move rfl rfl rfl ?_
      refine O_move rfl rfl rfl ?_
      refine O_bin rfl rfl rfl rfl (ev_and127 u hu2) ?_
      refine O_conv rfl rfl rfl rfl ?_
      refine O_bin rfl rfl rfl rfl rfl ?_
      refine O_know 17 (bv (UInt8.ofNat (u % 128 + 128))) rfl (congrArg (Value.int .u8) (more_byte2 u)) ?_
      refine O_lit hS rfl rfl rfl rfl rfl rfl (Nat.le_of_ble_eq_true rfl) (fun b18 w hS => ?_)
      have hn : Rd w (some ⟨b18, 0, none⟩) [bv (UInt8.ofNat (u % 128 + 128))] := hS.rdAll
      have hS := hS.f1
      refine O_append hS hR rfl rfl (by decide) rfl rfl rfl (m := 1) (news := [bv (UInt8.ofNat (u % 128 + 128))]) rfl hn (bvs_one [(UInt8.ofNat (u % 128 + 128))]) (by omega) (by unfold maxLen; omega) (fun v R w hR hS => ?_)
      have hS := hS.f1.drop
      refine O_assign rfl rfl rfl ?_
      refine O_end ?_
      refine W_region ?_
      refine O_move rfl rfl rfl ?_
      refine O_shift rfl rfl rfl rfl (by omega) rfl ?_
      refine O_know 21 (.int .u64 ((u / 128 : Nat) : Int)) rfl (congrArg (Value.int .u64) (shr7 u)) ?_
      refine O_assign rfl rfl rfl ?_
      refine O_end ?_
      have hu : ¬ u < 128 := by have := of_decide_eq_true c12; omega
      refine ⟨(u / 128, v, R, d ++ [(UInt8.ofNat (u % 128 + 128))]), ⟨rfl, rfl, trivial⟩, ⟨?_, brow_snoc hR, hS, by dsimp only; omega⟩, by dsimp only; omega⟩
      rw [enc_big hu] at hd
      simpa using hd
    · skip
      refine W_exit ?_
      refine W_seq ?_
      refine W_region ?_
      refine O_move rfl rfl rfl ?_
      refine O_move rfl rfl rfl ?_
      refine O_conv rfl rfl rfl rfl ?_
      refine O_know 24 (bv (UInt8.ofNat u)) rfl (congrArg (Value.int .u8) (low_byte u)) ?_
      refine O_lit hS rfl rfl rfl rfl rfl rfl (Nat.le_of_ble_eq_true rfl) (fun b25 w hS => ?_)
      have hn : Rd w (some ⟨b25, 0, none⟩) [bv (UInt8.ofNat u)] := hS.rdAll
      have hS := hS.f1
      refine O_append hS hR rfl rfl (by decide) rfl rfl rfl (m := 1) (news := [bv (UInt8.ofNat u)]) rfl hn (bvs_one [(UInt8.ofNat u)]) (by omega) (by unfold maxLen; omega) (fun v R w hR hS => ?_)
      have hS := hS.f1.drop
      refine O_assign rfl rfl rfl ?_
      refine O_end ?_
      refine W_ret ⟨_, rfl, ?_⟩
      have hu : u < 128 := by have := of_decide_eq_false c12; omega
      rw [enc_small hu] at hd
      refine ⟨R, ?_, hS⟩
      rw [← hd]
      exact brow_snoc hR
  · skip
    refine W_seq ?_
    refine W_region ?_
    refine O_move rfl rfl rfl ?_
    refine O_bin rfl rfl rfl rfl rfl ?_
    refine O_end ?_
    refine W_if rfl (fun c8 => ?_) (fun c8 => ?_)
    · skip
      refine W_region ?_
      refine O_move rfl rfl rfl ?_
      refine O_conv rfl rfl rfl rfl ?_
      refine O_assign rfl rfl rfl ?_
      refine O_end ?_
      refine W_seq ?_
      refine W_region ?_
      refine O_know 3 (.int .u64 ((clampN x : Nat) : Int)) rfl (congrArg (Value.int .u64) ((by (try simp only [decide_eq_true_eq] at *); (try simp only [decide_eq_false_iff_not] at *); (try rw [IntKind.wrap_u64]); unfold clampN; omega))) ?_
      refine O_assign rfl rfl rfl ?_
      refine O_end ?_
      refine W_seq ?_
      refine W_block ?_
      have hcl := clampN_le x
      refine W_loop (ι := Nat × Value × List Chunk × List UInt8) (fun i => [(3, .int .u64 (i.1 : Nat)), (4, i.2.1)])
          (fun i w => i.2.2.2 ++ enc i.1 = enc (clampN x) ∧ BRow i.2.1 i.2.2.2 i.2.2.1 ∧ St w0 [] [i.2.2.1] w ∧ i.1 ≤ 4611686018427387904)
          (fun i => i.1) (clampN x, .slice none 0 0, [], []) ⟨rfl, rfl, trivial⟩ ⟨rfl, Row.nil _ _, hS.empty, hcl⟩ ?_
      rintro ⟨u, v, R, d⟩ w ⟨hd, hR, hS, hu2⟩
      dsimp only at hd hR hS hu2 ⊢
      have hlen : d.length + (enc u).length ≤ 9 := by
        have h1 := congrArg List.length hd
        have h2 := enc_le (clampN x) hcl
        simp only [List.length_append] at h1
        omega
      have hpos := enc_pos u
      refine W_seq ?_
      refine W_seq ?_
      refine W_region ?_
      refine O_move rfl rfl rfl ?_
      refine O_bin rfl rfl rfl rfl rfl ?_
      refine O_end ?_
      refine W_if rfl (fun c12 => ?_) (fun c12 => ?_)
      · skip
        refine W_skip ?_
        refine W_block ?_
        refine W_seq ?_
        refine W_region ?_
        refine O_move rfl rfl rfl ?_
        refine O_move rfl rfl rfl ?_
        refine O_bin rfl rfl rfl rfl (ev_and127 u hu2) ?_
        refine O_conv rfl rfl rfl rfl ?_
        refine O_bin rfl rfl rfl rfl rfl ?_
        refine O_know 17 (bv (UInt8.ofNat (u % 128 + 128))) rfl (congrArg (Value.int .u8) (more_byte2 u)) ?_
        refine O_lit hS rfl rfl rfl rfl rfl rfl (Nat.le_of_ble_eq_true rfl) (fun b18 w hS => ?_)
        have hn : Rd w (some ⟨b18, 0, none⟩) [bv (UInt8.ofNat (u % 128 + 128))] := hS.rdAll
        have hS := hS.f1
        refine O_append hS hR rfl rfl (by decide) rfl rfl rfl (m := 1) (news := [bv (UInt8.ofNat (u % 128 + 128))]) rfl hn (bvs_one [(UInt8.ofNat (u % 128 + 128))]) (by omega) (by unfold maxLen; omega) (fun v R w hR hS => ?_)
        have hS := hS.f1.drop
        refine O_assign rfl rfl rfl ?_
        refine O_end ?_
        refine W_region ?_
        refine O_move rfl rfl rfl ?_
        refine O_shift rfl rfl rfl rfl (by omega) rfl ?_
        refine O_know 21 (.int .u64 ((u / 128 : Nat) : Int)) rfl (congrArg (Value.int .u64) (shr7 u)) ?_
        refine O_assign rfl rfl rfl ?_
        refine O_end ?_
        have hu : ¬ u < 128 := by have := of_decide_eq_true c12; omega
        refine ⟨(u / 128, v, R, d ++ [(UInt8.ofNat (u % 128 + 128))]), ⟨rfl, rfl, trivial⟩, ⟨?_, brow_snoc hR, hS, by dsimp only; omega⟩, by dsimp only; omega⟩
        rw [enc_big hu] at hd
        simpa using hd
      · skip
        refine W_exit ?_
        refine W_seq ?_
        refine W_region ?_
        refine O_move rfl rfl rfl ?_
        refine O_move rfl rfl rfl ?_
        refine O_conv rfl rfl rfl rfl ?_
        refine O_know 24 (bv (UInt8.ofNat u)) rfl (congrArg (Value.int .u8) (low_byte u)) ?_
        refine O_lit hS rfl rfl rfl rfl rfl rfl (Nat.le_of_ble_eq_true rfl) (fun b25 w hS => ?_)
        have hn : Rd w (some ⟨b25, 0, none⟩) [bv (UInt8.ofNat u)] := hS.rdAll
        have hS := hS.f1
        refine O_append hS hR rfl rfl (by decide) rfl rfl rfl (m := 1) (news := [bv (UInt8.ofNat u)]) rfl hn (bvs_one [(UInt8.ofNat u)]) (by omega) (by unfold maxLen; omega) (fun v R w hR hS => ?_)
        have hS := hS.f1.drop
        refine O_assign rfl rfl rfl ?_
        refine O_end ?_
        refine W_ret ⟨_, rfl, ?_⟩
        have hu : u < 128 := by have := of_decide_eq_false c12; omega
        rw [enc_small hu] at hd
        refine ⟨R, ?_, hS⟩
        rw [← hd]
        exact brow_snoc hR
    · skip
      refine W_skip ?_
      refine W_seq ?_
      refine W_region ?_
      refine O_know 3 (.int .u64 ((clampN x : Nat) : Int)) rfl (congrArg (Value.int .u64) ((by (try simp only [decide_eq_true_eq] at *); (try simp only [decide_eq_false_iff_not] at *); (try rw [IntKind.wrap_u64]); unfold clampN; omega))) ?_
      refine O_assign rfl rfl rfl ?_
      refine O_end ?_
      refine W_seq ?_
      refine W_block ?_
      have hcl := clampN_le x
      refine W_loop (ι := Nat × Value × List Chunk × List UInt8) (fun i => [(3, .int .u64 (i.1 : Nat)), (4, i.2.1)])
          (fun i w => i.2.2.2 ++ enc i.1 = enc (clampN x) ∧ BRow i.2.1 i.2.2.2 i.2.2.1 ∧ St w0 [] [i.2.2.1] w ∧ i.1 ≤ 4611686018427387904)
          (fun i => i.1) (clampN x, .slice none 0 0, [], []) ⟨rfl, rfl, trivial⟩ ⟨rfl, Row.nil _ _, hS.empty, hcl⟩ ?_
      rintro ⟨u, v, R, d⟩ w ⟨hd, hR, hS, hu2⟩
      dsimp only at hd hR hS hu2 ⊢
      have hlen : d.length + (enc u).length ≤ 9 := by
        have h1 := congrArg List.length hd
        have h2 := enc_le (clampN x) hcl
        simp only [List.length_append] at h1
        omega
      have hpos := enc_pos u
      refine W_seq ?_
      refine W_seq ?_
      refine W_region ?_
      refine O_move rfl rfl rfl ?_
      refine O_bin rfl rfl rfl rfl rfl ?_
      refine O_end ?_
      refine W_if rfl (fun c12 => ?_) (fun c12 => ?_)
      · skip
        refine W_skip ?_
        refine W_block ?_
        refine W_seq ?_
        refine W_region ?_
        refine O_move rfl rfl rfl ?_
        refine O_move rfl rfl rfl ?_
        refine O_bin rfl rfl rfl rfl (ev_and127 u hu2) ?_
        refine O_conv rfl rfl rfl rfl ?_
        refine O_bin rfl rfl rfl rfl rfl ?_
        refine O_know 17 (bv (UInt8.ofNat (u % 128 + 128))) rfl (congrArg (Value.int .u8) (more_byte2 u)) ?_
        refine O_lit hS rfl rfl rfl rfl rfl rfl (Nat.le_of_ble_eq_true rfl) (fun b18 w hS => ?_)
        have hn : Rd w (some ⟨b18, 0, none⟩) [bv (UInt8.ofNat (u % 128 + 128))] := hS.rdAll
        have hS := hS.f1
        refine O_append hS hR rfl rfl (by decide) rfl rfl rfl (m := 1) (news := [bv (UInt8.ofNat (u % 128 + 128))]) rfl hn (bvs_one [(UInt8.ofNat (u % 128 + 128))]) (by omega) (by unfold maxLen; omega) (fun v R w hR hS => ?_)
        have hS := hS.f1.drop
        refine O_assign rfl rfl rfl ?_
        refine O_end ?_
        refine W_region ?_
        refine O_move rfl rfl rfl ?_
        refine O_shift rfl rfl rfl rfl (by omega) rfl ?_
        refine O_know 21 (.int .u64 ((u / 128 : Nat) : Int)) rfl (congrArg (Value.int .u64) (shr7 u)) ?_
        refine O_assign rfl rfl rfl ?_
        refine O_end ?_
        have hu : ¬ u < 128 := by have := of_decide_eq_true c12; omega
        refine ⟨(u / 128, v, R, d ++ [(UInt8.ofNat (u % 128 + 128))]), ⟨rfl, rfl, trivial⟩, ⟨?_, brow_snoc hR, hS, by dsimp only; omega⟩, by dsimp only; omega⟩
        rw [enc_big hu] at hd
        simpa using hd
      · skip
        refine W_exit ?_
        refine W_seq ?_
        refine W_region ?_
        refine O_move rfl rfl rfl ?_
        refine O_move rfl rfl rfl ?_
        refine O_conv rfl rfl rfl rfl ?_
        refine O_know 24 (bv (UInt8.ofNat u)) rfl (congrArg (Value.int .u8) (low_byte u)) ?_
        refine O_lit hS rfl rfl rfl rfl rfl rfl (Nat.le_of_ble_eq_true rfl) (fun b25 w hS => ?_)
        have hn : Rd w (some ⟨b25, 0, none⟩) [bv (UInt8.ofNat u)] := hS.rdAll
        have hS := hS.f1
        refine O_append hS hR rfl rfl (by decide) rfl rfl rfl (m := 1) (news := [bv (UInt8.ofNat u)]) rfl hn (bvs_one [(UInt8.ofNat u)]) (by omega) (by unfold maxLen; omega) (fun v R w hR hS => ?_)
        have hS := hS.f1.drop
        refine O_assign rfl rfl rfl ?_
        refine O_end ?_
        refine W_ret ⟨_, rfl, ?_⟩
        have hu : u < 128 := by have := of_decide_eq_false c12; omega
        rw [enc_small hu] at hd
        refine ⟨R, ?_, hS⟩
        rw [← hd]
        exact brow_snoc hR

theorem refNums_spec {w0 : World} {A : Option Addr} {ns : List Int} {c : Nat} (hr : Rd w0 A (ns.map iv)) (hb : ns.length ≤ 10000000) :
    Calls Tryd.prog 26 #[.slice A ns.length c] w0 (Ret fun r w => ∃ G, BRow r (encs ns) G ∧ St w0 [] [G] w) := by
  have hS : Own [] w0 := St.start w0
  refine calls_enter (l := [.slice A ns.length c]) Tryd.func26 rfl Tryd.ntmps26 Tryd.results26 (Nat.le_of_ble_eq_true rfl) ?_
  refine W_seq ?_
  refine W_region ?_
  refine O_assign rfl rfl rfl ?_
  refine O_end ?_
  refine W_seq ?_
  refine W_region ?_
  refine O_assign rfl rfl rfl ?_
  refine O_end ?_
  refine W_seq ?_
  refine W_seq ?_
  refine W_region ?_
  refine O_assign rfl rfl rfl ?_
  refine O_end ?_
  refine W_block ?_
  refine W_loop (ι := Nat × Value × List Chunk) (fun i => [(0, .slice A ns.length c), (3, i.2.1), (4, .int .i64 (i.1 : Nat))])
      (fun i w => i.1 ≤ ns.length ∧ BRow i.2.1 (encs (ns.take i.1)) i.2.2 ∧ St w0 [] [i.2.2] w)
      (fun i => ns.length - i.1) (0, .slice none 0 0, []) ⟨rfl, rfl, rfl, trivial⟩ ⟨Nat.zero_le _, Row.nil _ _, hS.empty⟩ ?_
  rintro ⟨j, v, R⟩ w ⟨hj, hR, hS⟩
  dsimp only at hj hR hS ⊢
  refine W_seq ?_
  refine W_seq ?_
  refine W_region ?_
  refine O_move rfl rfl rfl ?_
  refine O_move rfl rfl rfl ?_
  refine O_len rfl rfl rfl rfl ?_
  refine O_bin rfl rfl rfl rfl rfl ?_
  refine O_end ?_
  refine W_if rfl (fun c8 => ?_) (fun c8 => ?_)
  · skip
    refine W_skip ?_
    refine W_seq ?_
    refine W_block ?_
    refine W_region ?_
    refine O_move rfl rfl rfl ?_
    refine O_move rfl rfl rfl ?_
    refine O_move rfl rfl rfl ?_
    have hlt : j < ns.length := by have := of_decide_eq_true c8; omega
    refine O_indexRd rfl rfl rfl rfl (hS.rd hr (Apart.of_nil _ _)) (v := iv ns[j]) (by simp [hlt]) hlt (fun ad hA hc => ?_)
    refine O_load rfl rfl rfl rfl hc ?_
    refine O_call rfl rfl rfl refNum_spec (fun r w ⟨G, hG, hk⟩ => ?_)
    have hS := hS.after0 hk
    obtain ⟨A', c', rfl, _, _, hrd, _⟩ := hG.rd hS
    have hS := hS.f1
    refine O_append hS hR rfl rfl (by decide) rfl rfl rfl (news := bvs (enc (clampN ns[j]))) (by simp) hrd (bvs_one _) (by have := enc_le _ (clampN_le ns[j]); have := encs_len (ns.take j); rw [List.length_take] at this; omega) (by have := enc_le _ (clampN_le ns[j]); have := encs_len (ns.take j); rw [List.length_take] at this; unfold maxLen; omega) (fun v R w hR hS => ?_)
    have hS := hS.f1.drop
    refine O_assign rfl rfl rfl ?_
    refine O_end ?_
    refine W_region ?_
    refine O_move rfl rfl rfl ?_
    refine O_bin rfl rfl rfl rfl (i64_succ j (by omega)) ?_
    refine O_assign rfl rfl rfl ?_
    refine O_end ?_
    refine ⟨(j + 1, v, R), ⟨rfl, rfl, rfl, trivial⟩, ⟨hlt, ?_, hS⟩, by dsimp only; omega⟩
    dsimp only
    rw [encs_snoc ns j hlt]
    exact brow_append hR rfl
  · skip
    refine W_exit ?_
    refine W_seq ?_
    refine W_region ?_
    refine O_move rfl rfl rfl ?_
    refine O_assign rfl rfl rfl ?_
    refine O_end ?_
    refine W_ret ⟨_, rfl, ?_⟩
    have hj' : j = ns.length := by have := of_decide_eq_false c8; omega
    subst hj'
    exact ⟨R, by simpa using hR, hS⟩

theorem refBytes_spec {w0 : World} {A : Option Addr} {x : List UInt8} {c : Nat} (hr : Rd w0 A (bvs x)) (hb : x.length ≤ 100000000) :
    Calls Tryd.prog 27 #[.slice A x.length c] w0 (Ret fun r w => ∃ G, BRow r (encRow x) G ∧ St w0 [] [G] w) := by
  have hS : Own [] w0 := St.start w0
  refine calls_enter (l := [.slice A x.length c]) Tryd.func27 rfl Tryd.ntmps27 Tryd.results27 (Nat.le_of_ble_eq_true rfl) ?_
  refine W_seq ?_
  refine W_region ?_
  refine O_assign rfl rfl rfl ?_
  refine O_end ?_
  refine W_seq ?_
  refine W_region ?_
  refine O_move rfl rfl rfl ?_
  refine O_len rfl rfl rfl rfl ?_
  refine O_call rfl rfl rfl refNum_spec (fun r w ⟨G, hG, hk⟩ => ?_)
  have hS := hS.after0 hk
  rw [clampN_nat _ (show x.length ≤ 4611686018427387904 by omega)] at hG
  refine O_move rfl rfl rfl ?_
  have hle := enc_le x.length (by omega)
  refine O_append hS hG rfl rfl (by decide) rfl rfl rfl (news := bvs x) (by simp) (hS.rd hr (Apart.of_nil _ _)) (bvs_one _) (by omega) (by unfold maxLen; omega) (fun v R w hR hS => ?_)
  refine O_assign rfl rfl rfl ?_
  refine O_end ?_
  refine W_ret ⟨_, rfl, ?_⟩
  exact ⟨R, brow_append hR rfl, hS⟩

end Go.Proofs.YtaglgnjamihdnaaDoor.R
