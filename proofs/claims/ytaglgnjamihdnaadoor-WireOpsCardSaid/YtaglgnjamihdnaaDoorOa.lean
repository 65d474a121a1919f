/- How a Writer lays numbers and bytes: what each call does, in the call's own memory. -/
import Derived.Test.YtaglgnjamihdnaaDoorRt
import Derived.Test.YtaglgnjamihdnaaDoorPa
namespace Go.Proofs.YtaglgnjamihdnaaDoor.R
open Go Go.RowKit Go.Proofs
set_option linter.unusedVariables false
set_option linter.unusedSimpArgs false
set_option maxRecDepth 20000

/-- A Writer: the block of its one field, and the row of bytes. -/
abbrev wcell (a : Nat) (v : Value) : List Chunk := [(a, .cells #[v] 50 (0, 0))]
abbrev BRow (v : Value) (bs : List UInt8) (R : List Chunk) : Prop := Row 5 1 v bs.length (bvs bs) R

theorem nums_spec {w0 : World} {a : Nat} {v0 : Value} {R0 : List Chunk} {bs : List UInt8} {A : Option Addr} {ns : List Int} {c : Nat}
    (hS : Own [wcell a v0, R0] w0) (hR : BRow v0 bs R0) (hr : Rd w0 A (ns.map iv)) (hap : Apart A (ns.map iv) (idsOf [wcell a v0, R0])) (hb : bs.length + 10 * ns.length ≤ 1000000000) :
    Calls Tryd.prog 19 #[.pointer (some ⟨a, 0, none⟩), .slice A ns.length c] w0 (Ret fun r w => r = .tuple #[] ∧ ∃ v R, BRow v (bs ++ encs ns) R ∧ St w0 (idsOf [wcell a v0, R0]) [wcell a v, R] w) := by
  refine calls_enter (l := [.pointer (some ⟨a, 0, none⟩), .slice A ns.length c]) Tryd.func19 rfl Tryd.ntmps19 Tryd.results19 (Nat.le_of_ble_eq_true rfl) ?_
  refine W_seq ?_
  refine W_seq ?_
  refine W_region ?_
  refine O_move rfl rfl rfl ?_
  refine O_eql_ptr rfl rfl rfl ?_
  refine O_end ?_
  refine W_if_false rfl (rfl) ?_
  refine W_skip ?_
  refine W_seq ?_
  refine W_region ?_
  refine O_move rfl rfl rfl ?_
  refine O_len rfl rfl rfl rfl ?_
  refine O_move rfl rfl rfl ?_
  refine O_end ?_
  refine W_block ?_
  refine W_loop (ι := Nat × Value × List Chunk)
      (fun i => [(0, .pointer (some ⟨a, 0, none⟩)), (9, .slice A ns.length c), (10, .int .i64 (ns.length : Nat)), (11, .int .i64 (i.1 : Nat))])
      (fun i w => i.1 ≤ ns.length ∧ BRow i.2.1 (bs ++ encs (ns.take i.1)) i.2.2 ∧ St w0 (idsOf [wcell a v0, R0]) [wcell a i.2.1, i.2.2] w)
      (fun i => ns.length - i.1) (0, v0, R0) ⟨rfl, rfl, rfl, rfl, trivial⟩ ⟨Nat.zero_le _, by simpa [encs] using hR, hS⟩ ?_
  rintro ⟨j, v, R⟩ w ⟨hj, hR, hS⟩
  dsimp only at hj hR hS ⊢
  refine W_seq ?_
  refine W_region ?_
  refine O_bin rfl rfl rfl rfl rfl ?_
  refine O_end ?_
  refine W_seq ?_
  refine W_if rfl (fun c12 => ?_) (fun c12 => ?_)
  · have hlt := c12
    refine W_skip ?_
    refine W_seq ?_
    refine W_block ?_
    refine W_seq ?_
    refine W_region ?_
    have hlt : j < ns.length := by simpa using c12
    refine O_indexRd rfl rfl rfl rfl (hS.rd hr hap) (v := iv ns[j]) (by simp [hlt]) hlt (fun ad hA hc => ?_)
    refine O_load rfl rfl rfl rfl hc ?_
    refine O_assign rfl rfl rfl ?_
    refine O_end ?_
    refine W_seq ?_
    refine W_region ?_
    refine O_move rfl rfl rfl ?_
    refine O_min rfl rfl rfl ?_
    refine O_max rfl rfl rfl ?_
    refine O_conv rfl rfl rfl (clamp_u64 _) ?_
    refine O_assign rfl rfl rfl ?_
    refine O_end ?_
    refine W_seq ?_
    refine W_block ?_
    refine W_loop (ι := Nat × Value × List Chunk × List UInt8)
        (fun i => [(0, .pointer (some ⟨a, 0, none⟩)), (9, .slice A ns.length c), (10, .int .i64 (ns.length : Nat)), (11, .int .i64 (j : Nat)), (6, .int .u64 (i.1 : Nat))])
        (fun i w => i.2.2.2 ++ enc i.1 = (bs ++ encs (ns.take j)) ++ enc (clampN ns[j]) ∧ BRow i.2.1 i.2.2.2 i.2.2.1 ∧ St w0 (idsOf [wcell a v0, R0]) [wcell a i.2.1, i.2.2.1] w)
        (fun i => i.1) (clampN ns[j], v, R, bs ++ encs (ns.take j)) ⟨rfl, rfl, rfl, rfl, rfl, trivial⟩ ⟨rfl, hR, hS⟩ ?_
    rintro ⟨u, v, R, d⟩ w ⟨hd, hR, hS⟩
    dsimp only at hd hR hS ⊢
    have hlen : d.length + (enc u).length ≤ bs.length + 9 * j + 9 := by
      have h1 := congrArg List.length hd
      have h2 := enc_le (clampN ns[j]) (clampN_le _)
      have h3 := encs_len (ns.take j)
      simp only [List.length_append, List.length_take] at h1 h3
      omega
    have hpos := enc_pos u
    refine W_seq ?_
    refine W_seq ?_
    refine W_region ?_
    refine O_move rfl rfl rfl ?_
    refine O_bin rfl rfl rfl rfl rfl ?_
    refine O_end ?_
    refine W_if rfl (fun c20 => ?_) (fun c20 => ?_)
    · skip
      refine W_skip ?_
      refine W_seq ?_
      refine W_block ?_
      refine W_region ?_
      refine O_move rfl rfl rfl ?_
      refine O_move rfl rfl rfl ?_
      refine O_nilCheck rfl rfl rfl ?_
      refine O_fieldAddr rfl rfl rfl ?_
      first | refine O_load rfl rfl rfl rfl (hS.cell rfl) ?_ | refine O_load rfl rfl rfl rfl (by assumption) ?_
      refine O_move rfl rfl rfl ?_
      refine O_conv rfl rfl rfl rfl ?_
      refine O_bin rfl rfl rfl rfl rfl ?_
      refine O_know 30 (bv (UInt8.ofNat (u % 128 + 128))) rfl (congrArg (Value.int .u8) (more_byte u)) ?_
      refine O_lit hS rfl rfl rfl rfl rfl rfl (Nat.le_of_ble_eq_true rfl) (fun b31 w hS => ?_)
      have hn : Rd w (some ⟨b31, 0, none⟩) [bv (UInt8.ofNat (u % 128 + 128))] := hS.rdAll
      have hS := hS.f2
      refine O_append hS hR rfl rfl (by decide) rfl rfl rfl (m := 1) (news := [bv (UInt8.ofNat (u % 128 + 128))]) rfl hn (bvs_one [(UInt8.ofNat (u % 128 + 128))]) (by omega) (by unfold maxLen; omega) (fun v R w hR hS => ?_)
      have hS := hS.f2
      refine O_nilCheck rfl rfl rfl ?_
      refine O_fieldAddr rfl rfl rfl ?_
      refine O_store hS rfl rfl rfl hR.one (Nat.le_of_ble_eq_true rfl) (fun w hS => ?_)
      have hS := hS.f2.drop
      refine O_end ?_
      refine W_region ?_
      refine O_move rfl rfl rfl ?_
      refine O_shift rfl rfl rfl rfl (by omega) rfl ?_
      refine O_know 22 (.int .u64 ((u / 128 : Nat) : Int)) rfl (congrArg (Value.int .u64) (shr7 u)) ?_
      refine O_assign rfl rfl rfl ?_
      refine O_end ?_
      have hu : ¬ u < 128 := by have := of_decide_eq_true c20; omega
      refine ⟨(u / 128, v, R, d ++ [(UInt8.ofNat (u % 128 + 128))]), ⟨rfl, rfl, rfl, rfl, rfl, trivial⟩, ⟨?_, brow_snoc hR, hS⟩, by dsimp only; omega⟩
      rw [enc_big hu] at hd
      simpa using hd
    · skip
      refine W_exit ?_
      refine W_region ?_
      refine O_move rfl rfl rfl ?_
      refine O_move rfl rfl rfl ?_
      refine O_nilCheck rfl rfl rfl ?_
      refine O_fieldAddr rfl rfl rfl ?_
      first | refine O_load rfl rfl rfl rfl (hS.cell rfl) ?_ | refine O_load rfl rfl rfl rfl (by assumption) ?_
      refine O_move rfl rfl rfl ?_
      refine O_conv rfl rfl rfl rfl ?_
      refine O_know 41 (bv (UInt8.ofNat u)) rfl (congrArg (Value.int .u8) (low_byte u)) ?_
      refine O_lit hS rfl rfl rfl rfl rfl rfl (Nat.le_of_ble_eq_true rfl) (fun b42 w hS => ?_)
      have hn : Rd w (some ⟨b42, 0, none⟩) [bv (UInt8.ofNat u)] := hS.rdAll
      have hS := hS.f2
      refine O_append hS hR rfl rfl (by decide) rfl rfl rfl (m := 1) (news := [bv (UInt8.ofNat u)]) rfl hn (bvs_one [(UInt8.ofNat u)]) (by omega) (by unfold maxLen; omega) (fun v R w hR hS => ?_)
      have hS := hS.f2
      refine O_nilCheck rfl rfl rfl ?_
      refine O_fieldAddr rfl rfl rfl ?_
      refine O_store hS rfl rfl rfl hR.one (Nat.le_of_ble_eq_true rfl) (fun w hS => ?_)
      have hS := hS.f2.drop
      refine O_end ?_
      refine W_region ?_
      refine O_bin rfl rfl rfl rfl (i64_succ j (by omega)) ?_
      refine O_move rfl rfl rfl ?_
      refine O_end ?_
      refine ⟨(j + 1, v, R), ⟨rfl, rfl, rfl, rfl, trivial⟩, ⟨hlt, ?_, hS⟩, by dsimp only; omega⟩
      have hu : u < 128 := by have := of_decide_eq_false c20; omega
      rw [enc_small hu] at hd
      have he : bs ++ encs (ns.take (j + 1)) = d ++ [UInt8.ofNat u] := by
        rw [List.take_succ_eq_append_getElem hlt, encs_append, ← List.append_assoc, hd]
        simp [encs]
      rw [he]
      exact brow_snoc hR
  · have hlt := c12
    refine W_exit ?_
    refine ⟨_, rfl, ?_⟩
    refine ⟨rfl, v, R, ?_, hS⟩
    have hj' : j = ns.length := by have := of_decide_eq_false c12; omega
    subst hj'
    simpa using hR

theorem clone_spec {w0 : World} {A : Option Addr} {bs : List UInt8} {c : Nat} (hr : Rd w0 A (bvs bs)) (hb : bs.length ≤ 1000000000) :
    Calls Tryd.prog 39 #[.slice A bs.length c] w0 (Ret fun r w => ∃ G, BRow r bs G ∧ St w0 [] [G] w) := by
  have hS : Own [] w0 := St.start w0
  refine calls_enter (l := [.slice A bs.length c]) Tryd.func39 rfl Tryd.ntmps39 Tryd.results39 (Nat.le_of_ble_eq_true rfl) ?_
  refine W_seq ?_
  refine W_region ?_
  refine O_assign rfl rfl rfl ?_
  refine O_end ?_
  refine W_seq ?_
  refine W_seq ?_
  refine W_region ?_
  refine O_move rfl rfl rfl ?_
  refine O_eql_slice rfl rfl rfl ?_
  refine O_end ?_
  refine W_if rfl (fun c4 => ?_) (fun c4 => ?_)
  · skip
    refine W_seq ?_
    refine W_region ?_
    refine O_assign rfl rfl rfl ?_
    refine O_end ?_
    refine W_ret ⟨_, rfl, ?_⟩
    have hA : A = none := by simpa using c4
    subst hA
    have : bs = [] := by
      cases bs with
      | nil => rfl
      | cons x r => obtain ⟨a, ha, _⟩ := hr 0 (bv x) rfl; cases ha
    subst this
    exact ⟨[], Row.nil _ _, hS.empty⟩
  · skip
    refine W_skip ?_
    refine W_seq ?_
    refine W_region ?_
    refine O_lit hS rfl rfl rfl rfl rfl rfl (Nat.le_of_ble_eq_true rfl) (fun b5 w hS => ?_)
    refine O_move rfl rfl rfl ?_
    refine O_append hS (Row.made (size := 1) (by simp [maxLen]) (Nat.zero_le _)) rfl rfl (by decide) rfl rfl rfl (news := bvs bs) (by simp) (hS.rd hr (Apart.of_nil _ _)) (bvs_one bs) (by omega) (by unfold maxLen; omega) (fun v G w hR hS => ?_)
    refine O_assign rfl rfl rfl ?_
    refine O_end ?_
    refine W_ret ⟨_, rfl, ?_⟩
    exact ⟨G, by simpa [BRow] using hR, hS⟩

theorem out_spec {w0 : World} {a : Nat} {v0 : Value} {R0 : List Chunk} {bs : List UInt8} (hS : Own [wcell a v0, R0] w0) (hR : BRow v0 bs R0) (hb : bs.length ≤ 1000000000) :
    Calls Tryd.prog 21 #[.pointer (some ⟨a, 0, none⟩)] w0 (Ret fun r w => ∃ G, BRow r bs G ∧ St w0 (idsOf [wcell a v0, R0]) [G, wcell a v0, R0] w) := by
  refine calls_enter (l := [.pointer (some ⟨a, 0, none⟩)]) Tryd.func21 rfl Tryd.ntmps21 Tryd.results21 (Nat.le_of_ble_eq_true rfl) ?_
  refine W_seq ?_
  refine W_region ?_
  refine O_assign rfl rfl rfl ?_
  refine O_end ?_
  refine W_seq ?_
  refine W_seq ?_
  refine W_region ?_
  refine O_move rfl rfl rfl ?_
  refine O_eql_ptr rfl rfl rfl ?_
  refine O_end ?_
  refine W_if_false rfl (rfl) ?_
  refine W_skip ?_
  refine W_seq ?_
  refine W_region ?_
  refine O_move rfl rfl rfl ?_
  refine O_nilCheck rfl rfl rfl ?_
  refine O_fieldAddr rfl rfl rfl ?_
  first | refine O_load rfl rfl rfl rfl (hS.cell rfl) ?_ | refine O_load rfl rfl rfl rfl (by assumption) ?_
  obtain ⟨A, c, rfl, hc1, hc2, hrd, hap⟩ := hR.rd hS.f1
  refine O_call rfl rfl rfl (clone_spec hrd hb) (fun r w ⟨G, hG, hk⟩ => ?_)
  have hS := hS.after0 hk
  refine O_assign rfl rfl rfl ?_
  refine O_end ?_
  refine W_ret ⟨_, rfl, ?_⟩
  exact ⟨G, hG, hS⟩

theorem raw_spec {w0 : World} {a : Nat} {v0 : Value} {R0 : List Chunk} {bs ys : List UInt8} {A : Option Addr} {c : Nat}
    (hS : Own [wcell a v0, R0] w0) (hR : BRow v0 bs R0) (hr : Rd w0 A (bvs ys)) (hb : bs.length + ys.length ≤ 1000000000) :
    Calls Tryd.prog 38 #[.pointer (some ⟨a, 0, none⟩), .slice A ys.length c] w0 (Ret fun r w => r = .tuple #[] ∧ ∃ v R, BRow v (bs ++ ys) R ∧ St w0 (idsOf [wcell a v0, R0]) [wcell a v, R] w) := by
  refine calls_enter (l := [.pointer (some ⟨a, 0, none⟩), .slice A ys.length c]) Tryd.func38 rfl Tryd.ntmps38 Tryd.results38 (Nat.le_of_ble_eq_true rfl) ?_
  refine W_seq ?_
  refine W_region ?_
  refine O_move rfl rfl rfl ?_
  refine O_neq_ptr rfl rfl rfl ?_
  refine O_end ?_
  refine W_if_true rfl (rfl) ?_
  refine W_region ?_
  refine O_move rfl rfl rfl ?_
  refine O_move rfl rfl rfl ?_
  refine O_nilCheck rfl rfl rfl ?_
  refine O_fieldAddr rfl rfl rfl ?_
  first | refine O_load rfl rfl rfl rfl (hS.cell rfl) ?_ | refine O_load rfl rfl rfl rfl (by assumption) ?_
  refine O_move rfl rfl rfl ?_
  have hS := hS.f1
  refine O_append hS hR rfl rfl (by decide) rfl rfl rfl (news := bvs ys) (by simp) hr (bvs_one ys) (by omega) (by unfold maxLen; omega) (fun v R w hR hS => ?_)
  have hS := hS.f1
  refine O_nilCheck rfl rfl rfl ?_
  refine O_fieldAddr rfl rfl rfl ?_
  refine O_store hS rfl rfl rfl hR.one (Nat.le_of_ble_eq_true rfl) (fun w hS => ?_)
  refine O_end ?_
  refine ⟨_, rfl, ?_⟩
  exact ⟨rfl, v, R, brow_append hR rfl, hS⟩

end Go.Proofs.YtaglgnjamihdnaaDoor.R
